/- slices.Collect(slices.Values(s)), for the evaluator: a row of the call's own. -/
import Derived.Test.YtmaehmacngldbaaDenK3
set_option linter.unusedVariables false
set_option linter.unusedSimpArgs false
namespace Go.Den
open Go Go.RowKit
/-- the slice value holds the numbers, in a block below n₀ -/
def IntsAt (n₀ : Nat) (W : World) (sv : Value) (zs : List Int) : Prop :=
  (∃ a cap, sv = .slice a 0 cap ∧ zs = []) ∨ ∃ b off cap, sv = .slice (some ⟨b, off, none⟩) zs.length cap ∧ b < n₀ ∧ ∀ j, j < zs.length → W.cell? ⟨b, off + j, none⟩ = some (.int .i64 (zs[j]?.getD 0))
def RunsCollect (P : Program) (f g : FuncId) (e : TypeId) : Prop :=
  ∀ (Bs : Addr) (sv : Value) (zs : List Int), zs.length * 8 ≤ 140737488351232 → ∀ w : World, Bs.block < w.heap.size → w.cell? Bs = some sv → IntsAt w.heap.size w sv zs →
    Calls P f #[.func (.func g) #[] #[.pointer (some Bs)]] w fun e' w' => ∃ v : Value, e' = .returned v ∧ w'.ownsRow w.heap.size e 1 v zs.length (zs.map (Value.int .i64)) ∧ Below w.heap.size w w'
def intsO : List (List PV) → Option (List Int)
  | [] => some []
  | [.int .i64 z] :: r => match intsO r with | some zs => some (z :: zs) | none => none
  | _ => none
theorem intsO_ints : ∀ zs : List Int, intsO (ints .i64 zs) = some zs
  | [] => rfl
  | z :: r => by
    have := intsO_ints r
    unfold ints at this ⊢
    rw [List.map_cons, intsO, this]
theorem intsO_some : ∀ {xs : List (List PV)} {zs : List Int}, intsO xs = some zs → xs = ints .i64 zs
  | [], zs, h => by cases h; rfl
  | x :: r, zs, h => by
    unfold intsO at h
    split at h
    · rename_i hx; cases hx
    · rename_i z r' hx
      injection hx with h1 h2
      subst h1; subst h2
      split at h
      · rename_i zs' hz
        injection h with h
        subst h
        rw [intsO_some hz]
        rfl
      · cases h
    · cases h
def collectF (g : FuncId) (e : TypeId) : List PV → Option PV
  | [.fn g' [.pc [.nils]]] => if g' == g then some (.nr e 1 []) else none
  | [.fn g' [.pc [.sl sz xs]]] => if g' == g && sz == 1 then (match intsO xs with | some zs => if Nat.ble (zs.length * 8) 140737488351232 then some (.nr e 1 (ints .i64 zs)) else none | none => none) else none
  | _ => none
theorem back_ints {w : World} {ok : Nat → Prop} {e : TypeId} (hok : ∀ k, ok k → k < w.heap.size ∧ k ∉ ([] : List Nat)) : ∀ (zs : List Int) (w' : World) (v : Value), w'.ownsRow w.heap.size e 1 v zs.length (zs.map (Value.int .i64)) → Below w.heap.size w w' → Back w ok [] (.nr e 1 (ints .i64 zs)) [] v w' := by
  intro zs w' v hown hbel
  obtain ⟨_, ⟨rfl, hn⟩ | ⟨g1, cap, cur, rfl, hge, hheap, hnc, hcl, hcur, htake⟩⟩ := hown
  · have hxs : zs = [] := List.length_eq_zero_iff.1 hn
    subst hxs
    exact ⟨(kept_of hbel), [], [], List.nodup_nil, by simp, .one (.leaf (.nil e 1)), .nil⟩
  · have hb1 : ∀ k ∈ [g1] ++ ([] : List Nat), w.heap.size ≤ k := fun k hk => by simp at hk; subst hk; exact hge
    have hlen : (ints IntKind.i64 zs).length = zs.length := by simp [ints]
    have key : ∀ ok', RowAt w' ok' (.slice (some ⟨g1, 0, none⟩) (ints IntKind.i64 zs).length cap) e 1 (ints .i64 zs) := fun ok' => by
      refine .inr ⟨g1, cap, cur, (0, 0), rfl, hheap, by rw [hlen]; exact hnc, by rw [hcur]; exact Nat.le_refl _, noFz_zero _, fun x hx => ?_, fun x hx p hp => ?_, fun i y j p hy hpp => ?_⟩
      · obtain ⟨z, _, rfl⟩ := List.mem_map.1 hx; rfl
      · obtain ⟨z, _, rfl⟩ := List.mem_map.1 hx; simp only [List.mem_singleton] at hp; subst hp; rfl
      · unfold ints at hy
        rw [List.getElem?_map, Option.map_eq_some_iff] at hy
        obtain ⟨z, hz, rfl⟩ := hy
        cases j with
        | succ j => simp at hpp
        | zero =>
          simp at hpp
          subst hpp
          have hi : i < zs.length := (List.getElem?_eq_some_iff.1 hz).1
          refine ⟨.int .i64 z, ?_, .int _ _⟩
          have h1 : (cur.toList.take (zs.length * 1))[i]? = some (.int .i64 z) := by rw [htake, List.getElem?_map, hz]; rfl
          rw [List.getElem?_take_of_lt (by omega)] at h1
          simpa using h1
    rw [← hlen]
    exact ⟨(kept_of hbel), [g1], [], by simp, hb1, .one (.leaf (.nr (key _))), .nil⟩
theorem collect_contract {P : Program} {f g : FuncId} {e : TypeId} (h : RunsCollect P f g e) : ∀ args res, collectF g e args = some res → Contract P f args [] res [] := by
  intro args res hc w vs bl ok hok hl ha
  have hbl : bl = [] := List.length_eq_zero_iff.1 hl.len
  subst hbl
  have fin := back_ints (e := e) hok
  have fnarg : ∀ {g' : FuncId} {leaf : PV}, ArgsOk w ok (Gl w ok []) vs [.fn g' [.pc [leaf]]] → plainLeaf leaf = true → ∃ (a : Addr) (sv : Value), vs = #[.func (.func g') #[] #[.pointer (some a)]] ∧ a.block < w.heap.size ∧ w.cell? a = some sv ∧ Rep w ok sv leaf := by
    intro g' leaf ha hp
    obtain ⟨u, rfl, hu⟩ := one_arg ha
    cases hu with
    | leaf hu => cases hu with
      | pl hu hpl => cases hpl
    | fn _ caps _ hlen hv =>
      have hs : caps.size = 1 := hlen
      obtain ⟨c, rfl⟩ : ∃ c, caps = #[c] := by
        rcases caps with ⟨_ | ⟨c, _ | ⟨c', r⟩⟩⟩ <;> simp at hs
        exact ⟨c, rfl⟩
      have h0 := hv 0 c (.pc [leaf]) rfl rfl
      have h1 := (RepS.leaf h0).rep rfl
      cases h1 with
      | pc a _ vs' _ hr hvv =>
        obtain ⟨g0, o, rfl, hok0, hcell⟩ := hr 0 leaf rfl
        exact ⟨_, _, rfl, (hok g0 hok0).1, by simpa using hcell, hvv 0 leaf rfl⟩
  unfold collectF at hc
  split at hc
  · rename_i g'
    split at hc
    · rename_i hg
      have hg : g' = g := by simpa using hg
      subst hg
      injection hc with hc
      subst hc
      obtain ⟨a, sv, rfl, hb, hcell, hrep⟩ := fnarg ha rfl
      cases hrep
      exact (h a _ [] (by simp) w hb hcell (.inl ⟨_, _, rfl, rfl⟩)).mono fun e1 w' ⟨v, he, hown, hbel⟩ => ⟨v, he, fin [] w' v hown hbel⟩
    · cases hc
  · rename_i g' sz xs
    split at hc
    · rename_i hg
      simp only [Bool.and_eq_true, beq_iff_eq] at hg
      obtain ⟨rfl, rfl⟩ := hg
      split at hc
      · rename_i zs hzs
        split at hc
        · rename_i hlim
          injection hc with hc
          subst hc
          have hlim : zs.length * 8 ≤ 140737488351232 := Nat.le_of_ble_eq_true hlim
          have hxs := intsO_some hzs
          subst hxs
          obtain ⟨a, sv, rfl, hb, hcell, hrep⟩ := fnarg ha rfl
          have hlen : (ints IntKind.i64 zs).length = zs.length := by simp [ints]
          have hI : IntsAt w.heap.size w sv zs := by
            cases hrep with
            | sl a' c _ _ vs' hcap hz hp hr hv =>
              cases zs with
              | nil => exact .inl ⟨_, _, rfl, rfl⟩
              | cons z r =>
                have cells : ∀ j, j < (z :: r).length → ∃ g0 o, a' = some ⟨g0, o, none⟩ ∧ ok g0 ∧ w.cell? ⟨g0, o + j, none⟩ = some (.int .i64 ((z :: r)[j]?.getD 0)) := fun j hj => by
                  have hx : (ints IntKind.i64 (z :: r))[j]? = some [.int .i64 ((z :: r)[j]?.getD 0)] := by
                    unfold ints
                    rw [List.getElem?_map, List.getElem?_eq_getElem hj]
                    rfl
                  obtain ⟨g0, o, h1, h2, h3⟩ := hr j _ 0 _ hx rfl
                  have h4 := hv j _ 0 _ hx rfl
                  refine ⟨g0, o, h1, h2, ?_⟩
                  have h5 : vs' j 0 = .int .i64 ((z :: r)[j]?.getD 0) := by
                    generalize vs' j 0 = u at h4
                    cases h4
                    rfl
                  rw [h5] at h3
                  simpa using h3
                obtain ⟨g0, o, rfl, hok0, _⟩ := cells 0 (by simp)
                refine .inr ⟨g0, o, c, by rw [hlen], (hok g0 hok0).1, fun j hj => ?_⟩
                obtain ⟨g1, o1, he, _, hc1⟩ := cells j hj
                injection he with he
                injection he with e1 e2
                subst e1; subst e2
                exact hc1
          exact (h a sv zs hlim w hb hcell hI).mono fun e1 w' ⟨v, he, hown, hbel⟩ => ⟨v, he, fin zs w' v hown hbel⟩
        · cases hc
      · cases hc
    · cases hc
  · cases hc
/-- what it gives back, at a row of numbers -/
theorem collectF_ints (g : FuncId) (e : TypeId) (l : List Int) (h : l.length ≤ 1000000) : collectF g e [.fn g [.pc [.sl 1 (ints .i64 l)]]] = some (.nr e 1 (ints .i64 l)) := by
  have hb : Nat.ble (l.length * 8) 140737488351232 = true := Nat.ble_eq_true_of_le (by omega)
  simp [collectF, intsO_ints, hb]
theorem collectF_nils (g : FuncId) (e : TypeId) : collectF g e [.fn g [.pc [.nils]]] = some (.nr e 1 []) := by simp [collectF]
/-! slices.Repeat of one number -/
def repeatF (e : TypeId) : List PV → Option PV
  | [.sl sz xs, .int .i64 n] => if sz == 1 then (match intsO xs with | some [z] => if 1 ≤ n ∧ n ≤ 17592186043904 then some (.nr e 1 (ints .i64 (List.replicate n.toNat z))) else none | _ => none) else none
  | _ => none
def RunsRepeat (P : Program) (f : FuncId) (e : TypeId) : Prop :=
  ∀ (x : Addr) (c : Nat) (z : Int) (n : Nat) (w : World), 1 ≤ n → n * 8 ≤ 140737488351232 → x.block < w.heap.size → w.cell? x = some (.int .i64 z) →
    Calls P f #[.slice (some x) 1 c, .int .i64 n] w fun e' w' => ∃ v, e' = .returned v ∧ w'.ownsRow w.heap.size e 1 v n (List.replicate n (.int .i64 z)) ∧ Below w.heap.size w w'
theorem repeat_contract {P : Program} {f : FuncId} {e : TypeId} (h : RunsRepeat P f e) : ∀ args res, repeatF e args = some res → Contract P f args [] res [] := by
  intro args res hc w vs bl ok hok hl ha
  have hbl : bl = [] := List.length_eq_zero_iff.1 hl.len
  subst hbl
  unfold repeatF at hc
  split at hc
  · rename_i sz xs n
    split at hc
    · rename_i hs
      have hs : sz = 1 := by simpa using hs
      subst hs
      split at hc
      · rename_i z hz
        split at hc
        · rename_i hn
          injection hc with hc
          subst hc
          have hxs := intsO_some hz
          subst hxs
          obtain ⟨u, v, rfl, hu, hv⟩ := two_args ha
          have hv := hv.rep rfl
          cases hv
          have hu := hu.rep rfl
          cases hu with
          | sl a' c _ _ vs' hcap hzz hp hr hvv =>
            obtain ⟨g0, o, rfl, hok0, hcell⟩ := hr 0 [.int .i64 z] 0 (.int .i64 z) rfl rfl
            have h4 := hvv 0 [.int .i64 z] 0 (.int .i64 z) rfl rfl
            have h5 : vs' 0 0 = .int .i64 z := by
              generalize vs' 0 0 = u at h4
              cases h4
              rfl
            rw [h5] at hcell
            obtain ⟨m, rfl⟩ : ∃ m : Nat, n = m := ⟨n.toNat, by omega⟩
            refine (h ⟨g0, o, none⟩ c z m w (by omega) (by omega) (hok g0 hok0).1 (by simpa using hcell)).mono fun e1 w' ⟨v, he, hown, hbel⟩ => ⟨v, he, ?_⟩
            exact back_ints hok (List.replicate m z) w' v (by simpa using hown) hbel
        · cases hc
      · cases hc
    · cases hc
  · cases hc
theorem repeatF_one (e : TypeId) (z n : Int) (h1 : 1 ≤ n) (h2 : n ≤ 1000000) : repeatF e [.sl 1 [[.int .i64 z]], .int .i64 n] = some (.nr e 1 (ints .i64 (List.replicate n.toNat z))) := by
  simp [repeatF, intsO, h1, show n ≤ 17592186043904 by omega]
/-! slices.Values: a closure that holds the row -/
def valuesF (g : FuncId) : List PV → Option PV
  | [.nils] => some (.fn g [.pc [.nils]])
  | [.sl sz xs] => some (.fn g [.pc [.sl sz xs]])
  | _ => none
def RunsValues (P : Program) (f g : FuncId) : Prop := ∀ (a : Option Addr) (n c : Nat) (w : World), Calls P f #[.slice a n c] w fun e w' => e = .returned (.func (.func g) #[] #[.pointer (some ⟨w.heap.size, 0, none⟩)]) ∧ ∃ t, w' = w.alloc (.cells #[.slice a n c] t)
theorem values_contract {P : Program} {f g : FuncId} (h : RunsValues P f g) : ∀ args res, valuesF g args = some res → Contract P f args [] res [] := by
  intro args res hc w vs bl ok hok hl ha
  have hbl : bl = [] := List.length_eq_zero_iff.1 hl.len
  subst hbl
  obtain ⟨p, rfl, rfl, hp, h1⟩ : ∃ p, args = [p] ∧ res = .fn g [.pc [p]] ∧ plainLeaf p = true ∧ ∀ {w' : World} {k : Nat → Prop} {v : Value}, Rep w' k v p → ∃ a n c, v = .slice a n c := by
    unfold valuesF at hc
    split at hc
    · injection hc with hc; exact ⟨_, rfl, hc.symm, rfl, fun h => by cases h; exact ⟨_, _, _, rfl⟩⟩
    · injection hc with hc; exact ⟨_, rfl, hc.symm, rfl, fun h => by cases h; exact ⟨_, _, _, rfl⟩⟩
    · cases hc
  obtain ⟨u, rfl, hu⟩ := one_arg ha
  have hr := hu.rep hp
  obtain ⟨a0, n0, c0, hu0⟩ := h1 hr
  subst hu0
  refine (h a0 n0 c0 w).mono fun e1 w' ⟨he, t, hw⟩ => ⟨_, he, ?_⟩
  have hbel : Below w.heap.size w w' := by rw [hw]; exact (Below.refl _ w).alloc (Nat.le_refl _) _
  have hh : w'.heap[w.heap.size]? = some (.cells #[.slice a0 n0 c0] t) := by rw [hw]; exact heap_alloc_new w _
  refine ⟨kept_of hbel, [], [], List.nodup_nil, by simp, .one (.fn g _ _ rfl fun j v q hv hq => ?_), .nil⟩
  cases j with
  | succ j => simp at hv
  | zero =>
    simp at hv hq
    subst hv; subst hq
    refine ⟨.pc _ _ (fun _ => .slice a0 n0 c0) (fun q hq => by simp at hq; subst hq; exact hp) (fun j q hj => ?_) (fun j q hj => ?_), rfl⟩
    · cases j with
      | succ j => simp at hj
      | zero =>
        refine ⟨_, _, rfl, ⟨.inr (Nat.le_refl _), (Array.getElem?_eq_some_iff.1 hh).1, by simp⟩, ?_⟩
        rw [cell_of_heap hh]
        rfl
    · cases j with
      | succ j => simp at hj
      | zero =>
        simp at hj
        subst hj
        exact hr.mono (mono_okB hok hbel (by simp))
theorem valuesF_sl (g : FuncId) (sz : Nat) (xs : List (List PV)) : valuesF g [.sl sz xs] = some (.fn g [.pc [.sl sz xs]]) := rfl
theorem valuesF_nils (g : FuncId) : valuesF g [.nils] = some (.fn g [.pc [.nils]]) := rfl
end Go.Den
