/- Den, part Za: slices.Clone; from the evaluator's word to a law's statement. -/
import Derived.Test.YtepofpmohiegpaaDenZ
import Derived.Below
namespace Go.Den
open Go.RowKit
variable {P : Program}

theorem kept_of {w w' : World} (h : Below w.heap.size w w') : Kept w w' [] := ⟨h.os, h.tape, h.output, h.size, fun k hk _ => h.block k hk⟩
theorem below_of {w w' : World} (h : Kept w w' []) : Below w.heap.size w w' := ⟨h.os, h.tape, h.output, h.size, fun k hk => h.same k hk (by simp)⟩

def RunsClone (P : Program) (f : FuncId) (e : TypeId) (size bytes : Nat) : Prop := ∀ (x : Addr) (n c : Nat) (news : List Value) (w : World), news.length = n * size → n ≤ maxLen → n * bytes ≤ 140737488355328 →
  (∀ (j : Nat) u, news[j]? = some u → w.cell? (x.add j) = some u) → (∀ u ∈ news, u.oneCell' = true) →
  Calls P f #[.slice (some x) n c] w fun e1 w' => ∃ v', e1 = .returned v' ∧ w'.ownsRow w.heap.size e size v' n news ∧ Below w.heap.size w w'
def RunsCloneNil (P : Program) (f : FuncId) : Prop := ∀ (n c : Nat) (w : World), Calls P f #[.slice none n c] w fun e w' => e = .returned (.slice none 0 0) ∧ w' = w

theorem one_arg {ok G} {w : World} {vs : Array Value} {p : PV} (ha : ArgsOk w ok G vs [p]) : ∃ u, vs = #[u] ∧ RepS w ok G u p := by
  have h1 := ha.1
  have hu : ∃ u, vs = #[u] := by
    rcases vs with ⟨_ | ⟨u, _ | ⟨u', r⟩⟩⟩ <;> simp at h1
    exact ⟨u, rfl⟩
  obtain ⟨u, rfl⟩ := hu
  exact ⟨u, rfl, ha.2 0 u p rfl rfl⟩
theorem mono_okB {w w' : World} {ok : Nat → Prop} {bs : List Nat} (hok : ∀ k, ok k → k < w.heap.size ∧ k ∉ ([] : List Nat)) (hb : Below w.heap.size w w') (hbs : ∀ k ∈ bs, w.heap.size ≤ k) : ∀ k, ok k → okB w w' ok bs k ∧ w'.heap[k]? = w.heap[k]? := fun k hk => by
  have h1 := (hok k hk).1
  exact ⟨⟨.inl hk, Nat.lt_of_lt_of_le h1 hb.size, fun hm => by have := hbs k hm; omega⟩, hb.block k h1⟩

theorem clone_contract {f : FuncId} {e : TypeId} {size bytes : Nat} (hsz : 0 < size) (h1 : RunsClone P f e size bytes) (h2 : RunsCloneNil P f) : ∀ args res, cloneF e size bytes args = some res → Contract P f args [] res [] := by
  intro args res hc w vs bl ok hok hl ha
  have hbl : bl = [] := List.length_eq_zero_iff.1 hl.len
  subst hbl
  unfold cloneF at hc
  split at hc
  · injection hc with hc
    subst hc
    obtain ⟨u, rfl, hu⟩ := one_arg ha
    have := hu.nils
    subst this
    refine (h2 0 0 w).mono fun e1 w' ⟨he, hw⟩ => ⟨_, he, ?_⟩
    subst hw
    exact ⟨Kept.refl _ _, [], [], List.nodup_nil, by simp, .one (.leaf (.nil e size)), .nil⟩
  · rename_i sz' xs
    split at hc
    · rename_i hcond
      injection hc with hc
      subst hc
      simp only [Bool.and_eq_true, beq_iff_eq, Nat.ble_eq] at hcond
      obtain ⟨rfl, hlim⟩ := hcond
      obtain ⟨u, rfl, hu⟩ := one_arg ha
      have := hu.rep rfl
      cases this with
      | sl a c _ _ vs hcap hz hp hr hv =>
        cases a with
        | none =>
          have hxs : xs = [] := by
            cases xs with
            | nil => rfl
            | cons x r =>
              have hx := hz x (List.mem_cons_self)
              obtain ⟨g, o, hg, _⟩ := hr 0 x 0 x[0] rfl (List.getElem?_eq_getElem (by omega))
              cases hg
          subst hxs
          refine (h2 _ c w).mono fun e1 w' ⟨he, hw⟩ => ⟨_, he, ?_⟩
          subst hw
          exact ⟨Kept.refl _ _, [], [], List.nodup_nil, by simp, .one (.leaf (.nil e sz')), .nil⟩
        | some x =>
          have hget : ∀ k, k < xs.length * sz' → ∃ y p, xs[k / sz']? = some y ∧ y[k % sz']? = some p := fun k hk => by
            have hi : k / sz' < xs.length := Nat.div_lt_of_lt_mul (by rw [Nat.mul_comm]; exact hk)
            have hy := List.getElem?_eq_getElem hi
            refine ⟨_, _, hy, List.getElem?_eq_getElem ?_⟩
            rw [hz _ (List.mem_of_getElem? hy)]
            exact Nat.mod_lt _ hsz
          have hnews : ∀ k, k < xs.length * sz' → ((List.range (xs.length * sz')).map fun k => vs (k / sz') (k % sz'))[k]? = some (vs (k / sz') (k % sz')) := fun k hk => by simp [hk]
          refine (h1 x xs.length c ((List.range (xs.length * sz')).map fun k => vs (k / sz') (k % sz')) w (by simp) (by unfold maxLen; rw [Nat.mul_succ] at hlim; omega) (by rw [Nat.mul_succ] at hlim; omega) (fun j u hj => ?_) (fun u hu => ?_)).mono fun e1 w' ⟨v', he, hown, hbel⟩ => ⟨v', he, ?_⟩
          · have hjl : j < xs.length * sz' := by have := (List.getElem?_eq_some_iff.1 hj).1; simpa using this
            rw [hnews j hjl] at hj
            injection hj with hj
            subst hj
            obtain ⟨y, p, hy, hpp⟩ := hget j hjl
            obtain ⟨g, o, hg, _, hcell⟩ := hr _ y _ p hy hpp
            injection hg with hg
            subst hg
            rw [add_off]
            rw [show j / sz' * sz' + j % sz' = j by rw [Nat.mul_comm]; exact Nat.div_add_mod j sz'] at hcell
            exact hcell
          · obtain ⟨k, hk, rfl⟩ := List.mem_map.1 hu
            obtain ⟨y, p, hy, hpp⟩ := hget k (by simpa using hk)
            exact ((hv _ y _ p hy hpp).one (hp y (List.mem_of_getElem? hy) p (List.mem_of_getElem? hpp))).1
          · obtain ⟨_, ⟨rfl, hn⟩ | ⟨g, cap, cur, rfl, hge, hheap, hnc, hcl, hcur, htake⟩⟩ := hown
            · have hxs : xs = [] := List.length_eq_zero_iff.1 hn
              subst hxs
              exact ⟨(kept_of hbel), [], [], List.nodup_nil, by simp, .one (.leaf (.nil e sz')), .nil⟩
            · have hb1 : ∀ k ∈ [g] ++ ([] : List Nat), w.heap.size ≤ k := fun k hk => by simp at hk; subst hk; exact hge
              refine ⟨(kept_of hbel), [g], [], by simp, hb1, .one (.leaf (.nr (.inr ⟨g, cap, cur, (0, 0), rfl, hheap, hnc, by rw [hcur]; exact Nat.le_refl _, noFz_zero _, hz, hp, fun i y j p hy hpp => ?_⟩))), .nil⟩
              have hi := (List.getElem?_eq_some_iff.1 hy).1
              have hj : j < sz' := by rw [← hz y (List.mem_of_getElem? hy)]; exact (List.getElem?_eq_some_iff.1 hpp).1
              have hij := mul_lt hi hj
              refine ⟨vs i j, ?_, (hv i y j p hy hpp).mono (mono_okB hok hbel hb1)⟩
              have h3 := hnews (i * sz' + j) hij
              rw [← htake, List.getElem?_take_of_lt hij] at h3
              have e1 : (i * sz' + j) / sz' = i := by rw [Nat.mul_comm, Nat.mul_add_div hsz, Nat.div_eq_of_lt hj, Nat.add_zero]
              have e2 : (i * sz' + j) % sz' = j := by rw [Nat.mul_comm, Nat.mul_add_mod, Nat.mod_eq_of_lt hj]
              rw [e1, e2] at h3
              simpa using h3
    · cases hc
  · cases hc

/-! ### a law -/
theorem law_calls {E : Env} (hE : EnvOK E) {k : Nat} {f : FuncId} {args : List PV} {w : World} {vs : Array Value} (h : den E k f args [] = some (.bool true, [])) (ha : ArgsOk w (fun k => k < w.heap.size) (Gl w (fun k => k < w.heap.size) []) vs args) :
    Calls E.P f vs w fun e w' => e = .returned (.bool true) ∧ Below w.heap.size w w' := by
  refine ((((den_sim hE k).call f args [] _ _ h).2 w vs [] (fun k => k < w.heap.size) (fun k hk => ⟨hk, by simp⟩) ⟨rfl, List.nodup_nil, by simp⟩ ha)).mono fun e w' ⟨v, he, hk, bs, bss, _, _, hx, _⟩ => ?_
  exact ⟨by rw [he, hx.bool], below_of hk⟩
theorem arg_int {w : World} {ok G} (k : IntKind) (n : Int) : RepS w ok G (.int k n) (.int k n) := .leaf (.pl (.int k n) rfl)
theorem arg_bool {w : World} {ok G} (b : Bool) : RepS w ok G (.bool b) (.bool b) := .leaf (.pl (.bool b) rfl)
theorem arg_str {w : World} {ok G} (s : ByteArray) : RepS w ok G (.string s) (.str s.data.toList) := .leaf (.pl (.str s) rfl)
/-- a slice of integers -/
def rowOf (k : IntKind) (zs : List Int) : PV := .sl 1 (zs.map fun z => [.int k z])
theorem arg_row {w : World} {G} {k : IntKind} {a : Option Addr} {len cap : Nat} {zs : List Int}
    (h : (a = none ∧ len = 0 ∧ cap = 0 ∧ zs = []) ∨ ∃ x, a = some x ∧ len ≤ cap ∧ cap ≤ maxLen ∧ zs.length = cap ∧ (∀ i, i < zs.length → w.cell? (x.add i) = some (.int k (zs.getD i 0))) ∧ ∀ n ∈ zs, (Lit.int k n).wf = true) :
    RepS w (fun k => k < w.heap.size) G (.slice a len cap) (rowOf k (zs.take len)) := by
  refine .leaf (.pl ?_ rfl)
  unfold rowOf
  have hlen : ((zs.take len).map fun z => [PV.int k z]).length = len := by
    rcases h with ⟨_, rfl, _, rfl⟩ | ⟨x, _, h1, _, h3, _⟩
    · rfl
    · simp; omega
  have hmem : ∀ x ∈ (zs.take len).map (fun z => [PV.int k z]), ∃ z, x = [.int k z] := fun x hx => by
    obtain ⟨z, _, rfl⟩ := List.mem_map.1 hx
    exact ⟨z, rfl⟩
  have base : Rep w (fun k => k < w.heap.size) (.slice a ((zs.take len).map fun z => [PV.int k z]).length cap) (.sl 1 ((zs.take len).map fun z => [.int k z])) := by
    refine .sl a cap 1 _ (fun i _ => .int k (zs.getD i 0)) ?_ (fun x hx => by obtain ⟨z, rfl⟩ := hmem x hx; rfl) (fun x hx p hp => by obtain ⟨z, rfl⟩ := hmem x hx; simp at hp; subst hp; rfl) (fun i x j p hx hp => ?_) (fun i x j p hx hp => ?_)
    · rcases h with ⟨_, rfl, rfl, rfl⟩ | ⟨x, _, h1, _, h3, _⟩
      · simp
      · rw [hlen]; exact h1
    · rcases h with ⟨_, rfl, _, rfl⟩ | ⟨y, rfl, h1, _, h3, h4, _⟩
      · simp at hx
      · have hi : i < len := by have := (List.getElem?_eq_some_iff.1 hx).1; rw [hlen] at this; exact this
        have hj : j = 0 := by
          obtain ⟨z, rfl⟩ := hmem x (List.mem_of_getElem? hx)
          cases j with
          | zero => rfl
          | succ j => simp at hp
        subst hj
        have hc := h4 i (by omega)
        have hs := World.cell?_spot (h4 0 (by omega))
        obtain ⟨g, o, s⟩ := y
        have hsn : s = none := by
          simpa [Addr.add] using hs
        subst hsn
        rw [add_off] at hc
        exact ⟨g, o, rfl, cell_lt hc, by simpa using hc⟩
    · have hxz : zs[i]? = some (zs.getD i 0) ∧ x = [.int k (zs.getD i 0)] := by
        rw [List.getElem?_map, Option.map_eq_some_iff] at hx
        obtain ⟨z, hz, rfl⟩ := hx
        rw [List.getElem?_take] at hz
        split at hz
        · have : zs.getD i 0 = z := by simp [List.getD_eq_getElem?_getD, hz]
          rw [this]; exact ⟨hz, rfl⟩
        · cases hz
      obtain ⟨_, rfl⟩ := hxz
      cases j with
      | zero => simp at hp; subst hp; exact .int ..
      | succ j => simp at hp
  rw [hlen] at base
  exact base

/-! ### a masked number -/
theorem masked (P : Program) (n : Int) : ∃ m : Nat, m < 256 ∧ Masked P (.int .i64 m) (.int .i64 n) := by
  let X : BitVec 64 := BitVec.ofInt 64 n &&& 255#64
  have hX : X &&& 255#64 = X := by
    show (BitVec.ofInt 64 n &&& 255#64) &&& 255#64 = _
    rw [BitVec.and_assoc, BitVec.and_self]
  have hlt : X.toNat < 256 := by
    show (BitVec.ofInt 64 n &&& 255#64).toNat < 256
    rw [BitVec.toNat_and]
    exact Nat.lt_of_le_of_lt Nat.and_le_right (by decide)
  refine ⟨X.toNat, hlt, fun t k => ?_⟩
  have h1 : BitVec.ofInt 64 (X.toNat : Int) = X := by simp
  have h2 : BitVec.ofInt 64 255 = 255#64 := by decide
  have key : BitVec.ofInt 64 (X.toNat : Int) &&& BitVec.ofInt 64 255 = BitVec.ofInt 64 n &&& BitVec.ofInt 64 255 := by rw [h1, h2, hX]
  have key2 : binInt .and .i64 (X.toNat : Int) 255 = binInt .and .i64 n 255 := by
    show some (PV.int .i64 (IntKind.i64.wrap (BitVec.ofInt 64 (X.toNat : Int) &&& BitVec.ofInt 64 255).toNat)) = some (PV.int .i64 (IntKind.i64.wrap (BitVec.ofInt 64 n &&& BitVec.ofInt 64 255).toNat))
    rw [key]
  simp only [evBin, key2]

/-! ### what the kernel is asked -/
def infoOK (P : Program) (e size bytes : Nat) : Bool := match P.info? e with | some i => (match i.zero with | some z => i.size == size && i.bytes == bytes && z.cells.size == size | none => false) | none => false
theorem info_of {P : Program} {e size bytes : Nat} (h : infoOK P e size bytes = true) : ∃ i0 z, P.info? e = some i0 ∧ i0.zero = some z ∧ i0.size = size ∧ i0.bytes = bytes ∧ z.cells.size = size ∧ ∀ w, (Go.sizeOf e).run P w = .ok size w := by
  unfold infoOK at h
  split at h
  · rename_i i hi
    split at h
    · rename_i z hz
      simp only [Bool.and_eq_true, beq_iff_eq] at h
      exact ⟨i, z, hi, hz, h.1.1, h.1.2, h.2, fun w => run_sizeOf' (by simp [tSize, hi, h.1.1]) w⟩
    · cases h
  · cases h
def fnOK (fn : Func) : Bool := !(fn.name == "runtime.NumGoroutine") && match fn.body with | some c => dstOK fn.ntmps c | none => false
theorem fn_of {P : Program} {f : FuncId} {fn : Func} (h1 : P.funcs[f]? = some fn) (h : fnOK fn = true) : P.funcs[f]? = some fn ∧ fn.name ≠ "runtime.NumGoroutine" ∧ ∃ c, fn.body = some c ∧ dstOK fn.ntmps c = true := by
  unfold fnOK at h
  simp only [Bool.and_eq_true, Bool.not_eq_true', beq_eq_false_iff_ne] at h
  obtain ⟨h2, h3⟩ := h
  split at h3
  · rename_i c hc
    exact ⟨h1, h2, c, hc, h3⟩
  · cases h3
theorem entered_of {P : Program} {f : FuncId} {fn : Func} (h1 : P.funcs[f]? = some fn) (h : fnOK fn = true) : Entered P f := by
  obtain ⟨a, b, c, d, _⟩ := fn_of h1 h
  exact ⟨fn, a, b, by simp [d]⟩
def tFn (T : List Nat) (lv : Nat → List NI) (fn : Func) : Bool := match fn.body with | some c => tC T lv c && fn.results.all (tRes T) && T.contains 0 | none => false
def saysTrue (x : Option (PV × List (List PV))) : Bool := match x with | some (.bool true, []) => true | _ => false
theorem says_true {x : Option (PV × List (List PV))} (h : saysTrue x = true) : x = some (.bool true, []) := by
  unfold saysTrue at h
  split at h
  · rfl
  · cases h
/-- A law of one masked number. -/
theorem forms_calls {E : Env} (hE : EnvOK E) (T : List Nat) {k : Nat} {f : FuncId} {fn : Func} (hf : E.fns f = some fn) (ht : tFn T (E.lv f) fn = true) (h : ((List.range 256).all fun m => saysTrue (den E k f [.int .i64 m] [])) = true) (a : Int) (w : World) :
    Calls E.P f #[.int .i64 a] w fun e w' => e = .returned (.bool true) ∧ Below w.heap.size w w' := by
  obtain ⟨m, hm, hM⟩ := masked E.P a
  have h1 := says_true (List.all_eq_true.1 h m (by simpa using hm))
  unfold tFn at ht
  split at ht
  · rename_i c hc
    simp only [Bool.and_eq_true] at ht
    have h2 := den_tw rfl rfl hM hf hc ht.1.1 ht.1.2 (by simpa using ht.2) h1
    refine law_calls hE h2 ⟨rfl, fun j v p hv hp => ?_⟩
    cases j with
    | zero => simp at hv hp; subst hv; subst hp; exact arg_int ..
    | succ j => simp at hv
  · cases ht

noncomputable def blk (E : Env) (k : Nat) (f : FuncId) (B i : Nat) : Bool := (List.range' (B * i) B).all fun m => saysTrue (den E k f [.int .i64 m] [])
theorem forms_blocks {E : Env} (hE : EnvOK E) (T : List Nat) {k : Nat} {f : FuncId} {fn : Func} (hf : E.fns f = some fn) (ht : tFn T (E.lv f) fn = true) (B : Nat) (hB : 256 % B = 0 ∧ 0 < B) (h : ∀ i, i < 256 / B → blk E k f B i = true) (a : Int) (w : World) :
    Calls E.P f #[.int .i64 a] w fun e w' => e = .returned (.bool true) ∧ Below w.heap.size w w' := by
  refine forms_calls (k := k) hE T hf ht (List.all_eq_true.2 fun m hm => ?_) a w
  have hm : m < 256 := by simpa using hm
  have hi : m / B < 256 / B := by
    rw [Nat.div_lt_iff_lt_mul hB.2]
    have := Nat.div_add_mod 256 B
    rw [hB.1, Nat.add_zero, Nat.mul_comm] at this
    omega
  have := List.all_eq_true.1 (h _ hi) m ?_
  · exact this
  · rw [List.mem_range'_1]
    have h1 := Nat.div_add_mod m B
    have h2 := Nat.mod_lt m hB.2
    omega
end Go.Den
