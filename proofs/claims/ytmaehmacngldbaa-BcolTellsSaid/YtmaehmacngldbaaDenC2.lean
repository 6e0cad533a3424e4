/- slices.Collect(slices.Values(s)) where s holds slices, for the evaluator: a row of the call's own. -/
import Derived.Test.YtmaehmacngldbaaDenC
set_option linter.unusedVariables false
set_option linter.unusedSimpArgs false
namespace Go.Den
open Go Go.RowKit
abbrev SV := Option Addr × Nat × Nat
def encS (x : SV) : Value := .slice x.1 x.2.1 x.2.2
def svN : SV := (none, 0, 0)
def svOf : Value → SV
  | .slice a n c => (a, n, c)
  | _ => svN
/-- the slice value holds these, in a block below n₀ -/
def SvAt (n₀ : Nat) (W : World) (sv : Value) (zs : List SV) : Prop :=
  (∃ a cap, sv = .slice a 0 cap ∧ zs = []) ∨ ∃ b off cap, sv = .slice (some ⟨b, off, none⟩) zs.length cap ∧ b < n₀ ∧ ∀ j, j < zs.length → W.cell? ⟨b, off + j, none⟩ = some (encS (zs[j]?.getD svN))
def RunsCollectS (P : Program) (f g : FuncId) (e : TypeId) : Prop :=
  ∀ (Bs : Addr) (sv : Value) (zs : List SV), zs.length * 24 ≤ 140737488351232 → ∀ w : World, Bs.block < w.heap.size → w.cell? Bs = some sv → SvAt w.heap.size w sv zs →
    Calls P f #[.func (.func g) #[] #[.pointer (some Bs)]] w fun e' w' => ∃ v : Value, e' = .returned v ∧ w'.ownsRow w.heap.size e 1 v zs.length (zs.map encS) ∧ Below w.heap.size w w'
/-- a leaf that is a slice, alone in its row -/
def slOne : List PV → Bool
  | [.nils] => true
  | [.sl _ _] => true
  | _ => false
def collectSF (g : FuncId) (e : TypeId) : List PV → Option PV
  | [.fn g' [.pc [.nils]]] => if g' == g then some (.nr e 1 []) else none
  | [.fn g' [.pc [.sl sz xs]]] => if g' == g && sz == 1 && xs.all slOne && Nat.ble (xs.length * 24) 140737488351232 then some (.nr e 1 xs) else none
  | _ => none
theorem slOne_eq {x : List PV} (h : slOne x = true) : ∃ p, x = [p] ∧ plainLeaf p = true ∧ ∀ {w : World} {ok : Nat → Prop} {v : Value}, Rep w ok v p → encS (svOf v) = v := by
  unfold slOne at h
  split at h
  · exact ⟨_, rfl, rfl, fun h => by cases h; rfl⟩
  · exact ⟨_, rfl, rfl, fun h => by cases h; rfl⟩
  · cases h
theorem back_sl {w : World} {ok : Nat → Prop} {e : TypeId} (hok : ∀ k, ok k → k < w.heap.size ∧ k ∉ ([] : List Nat)) (xs : List (List PV)) (zs : List SV) (hlen : xs.length = zs.length) (hx : xs.all slOne = true)
    (hr : ∀ (i : Nat) p, xs[i]? = some [p] → Rep w ok (encS (zs[i]?.getD svN)) p) (w' : World) (v : Value) (hown : w'.ownsRow w.heap.size e 1 v zs.length (zs.map encS)) (hbel : Below w.heap.size w w') : Back w ok [] (.nr e 1 xs) [] v w' := by
  obtain ⟨_, ⟨rfl, hn⟩ | ⟨g1, cap, cur, rfl, hge, hheap, hnc, hcl, hcur, htake⟩⟩ := hown
  · have hxs : xs = [] := List.length_eq_zero_iff.1 (hlen.trans hn)
    subst hxs
    exact ⟨(kept_of hbel), [], [], List.nodup_nil, by simp, .one (.leaf (.nil e 1)), .nil⟩
  · have hb1 : ∀ k ∈ [g1] ++ ([] : List Nat), w.heap.size ≤ k := fun k hk => by simp at hk; subst hk; exact hge
    have hall : ∀ x ∈ xs, slOne x = true := fun x hm => List.all_eq_true.1 hx x hm
    have key : ∀ ok' : Nat → Prop, (∀ k, ok k → ok' k) → RowAt w' ok' (.slice (some ⟨g1, 0, none⟩) xs.length cap) e 1 xs := fun ok' hok' => by
      refine .inr ⟨g1, cap, cur, (0, 0), rfl, hheap, by rw [hlen]; exact hnc, by rw [hcur]; exact Nat.le_refl _, noFz_zero _, fun x hm => ?_, fun x hm p hp => ?_, fun i y j p hy hpp => ?_⟩
      · obtain ⟨p, rfl, _, _⟩ := slOne_eq (hall x hm); rfl
      · obtain ⟨q, rfl, h1, _⟩ := slOne_eq (hall x hm); simp only [List.mem_singleton] at hp; subst hp; exact h1
      · obtain ⟨q, rfl, h1, _⟩ := slOne_eq (hall y (List.mem_of_getElem? hy))
        cases j with
        | succ j => simp at hpp
        | zero =>
          simp at hpp
          subst hpp
          have hi : i < zs.length := by rw [← hlen]; exact (List.getElem?_eq_some_iff.1 hy).1
          refine ⟨encS (zs[i]?.getD svN), ?_, (hr i q hy).mono fun k hk => ⟨hok' k hk, hbel.block k (hok k hk).1⟩⟩
          have h1 : (cur.toList.take (zs.length * 1))[i]? = some (encS (zs[i]?.getD svN)) := by rw [htake, List.getElem?_map, List.getElem?_eq_getElem hi]; rfl
          rw [List.getElem?_take_of_lt (by omega)] at h1
          simpa using h1
    rw [← hlen]
    exact ⟨(kept_of hbel), [g1], [], by simp, hb1, .one (.leaf (.nr (key _ fun k hk => ⟨.inl hk, Nat.lt_of_lt_of_le (hok k hk).1 hbel.size, by have := (hok k hk).1; simp; omega⟩))), .nil⟩
theorem collectS_contract {P : Program} {f g : FuncId} {e : TypeId} (h : RunsCollectS P f g e) : ∀ args res, collectSF g e args = some res → Contract P f args [] res [] := by
  intro args res hc w vs bl ok hok hl ha
  have hbl : bl = [] := List.length_eq_zero_iff.1 hl.len
  subst hbl
  have fin := back_sl (e := e) hok
  have fnarg : ∀ {g' : FuncId} {leaf : PV}, ArgsOk w ok (Gl w ok []) vs [.fn g' [.pc [leaf]]] → plainLeaf leaf = true → ∃ (a : Addr) (sv : Value), vs = #[.func (.func g') #[] #[.pointer (some a)]] ∧ a.block < w.heap.size ∧ w.cell? a = some sv ∧ Rep w ok sv leaf := by
    intro g' leaf ha hp
    obtain ⟨u, rfl, hu⟩ := one_arg ha
    cases hu with
    | leaf hu => cases hu with
      | pl hu hpl => cases hpl
    | fn _ caps _ hlen hv =>
      have hs : caps.size = 1 := hlen
      obtain ⟨c, rfl⟩ : ∃ c, caps = #[c] := by
        rcases caps with ⟨_ | ⟨c, _ | ⟨c', r⟩⟩⟩ <;> simp at hs
        exact ⟨c, rfl⟩
      have h0 := hv 0 c (.pc [leaf]) rfl rfl
      have h1 := (RepS.leaf h0).rep rfl
      cases h1 with
      | pc a _ vs' _ hr hvv =>
        obtain ⟨g0, o, rfl, hok0, hcell⟩ := hr 0 leaf rfl
        exact ⟨_, _, rfl, (hok g0 hok0).1, by simpa using hcell, hvv 0 leaf rfl⟩
  unfold collectSF at hc
  split at hc
  · rename_i g'
    split at hc
    · rename_i hg
      have hg : g' = g := by simpa using hg
      subst hg
      injection hc with hc
      subst hc
      obtain ⟨a, sv, rfl, hb, hcell, hrep⟩ := fnarg ha rfl
      cases hrep
      exact (h a _ [] (by simp) w hb hcell (.inl ⟨_, _, rfl, rfl⟩)).mono fun e1 w' ⟨v, he, hown, hbel⟩ => ⟨v, he, fin [] [] rfl rfl (fun i p hp => by simp at hp) w' v hown hbel⟩
    · cases hc
  · rename_i g' sz xs
    split at hc
    · rename_i hg
      simp only [Bool.and_eq_true, beq_iff_eq] at hg
      obtain ⟨⟨⟨rfl, rfl⟩, hall⟩, hlim⟩ := hg
      injection hc with hc
      subst hc
      have hlim : xs.length * 24 ≤ 140737488351232 := Nat.le_of_ble_eq_true hlim
      obtain ⟨a, sv, rfl, hb, hcell, hrep⟩ := fnarg ha rfl
      cases hrep with
      | sl a' c _ _ vs' hcap hz hp hr hv =>
        have enc : ∀ j x, xs[j]? = some x → ∃ p, x = [p] ∧ encS (svOf (vs' j 0)) = vs' j 0 ∧ Rep w ok (vs' j 0) p := fun j x hx => by
          obtain ⟨p, rfl, h1, h2⟩ := slOne_eq (List.all_eq_true.1 hall x (List.mem_of_getElem? hx))
          have h3 := hv j [p] 0 p hx rfl
          exact ⟨p, rfl, h2 h3, h3⟩
        let zs : List SV := (List.range xs.length).map fun j => svOf (vs' j 0)
        have hzl : zs.length = xs.length := by simp [zs]
        have hzg : ∀ j, j < xs.length → zs[j]?.getD svN = svOf (vs' j 0) := fun j hj => by simp [zs, hj]
        have hI : SvAt w.heap.size w (.slice a' xs.length c) zs := by
          cases hxs : xs with
          | nil => exact .inl ⟨a', c, by simp, by simp [zs, hxs]⟩
          | cons x0 r =>
            have cells : ∀ j, j < xs.length → ∃ g0 o, a' = some ⟨g0, o, none⟩ ∧ ok g0 ∧ w.cell? ⟨g0, o + j, none⟩ = some (encS (zs[j]?.getD svN)) := fun j hj => by
              obtain ⟨p, hx, he, _⟩ := enc j _ (List.getElem?_eq_getElem hj)
              obtain ⟨g0, o, h1, h2, h3⟩ := hr j [p] 0 p (by rw [List.getElem?_eq_getElem hj, hx]) rfl
              rw [hzg j hj, he]
              exact ⟨g0, o, h1, h2, by simpa using h3⟩
            obtain ⟨g0, o, ha', hok0, _⟩ := cells 0 (by rw [hxs]; simp)
            refine .inr ⟨g0, o, c, by rw [← hxs, hzl, ha'], (hok g0 hok0).1, fun j hj => ?_⟩
            obtain ⟨g1, o1, he, _, hc1⟩ := cells j (by rw [← hzl]; exact hj)
            rw [ha'] at he
            injection he with he
            injection he with e1 e2
            subst e1; subst e2
            exact hc1
        refine (h a _ zs (by rw [hzl]; exact hlim) w hb hcell hI).mono fun e1 w' ⟨v, he, hown, hbel⟩ => ⟨v, he, fin xs zs hzl.symm hall (fun i p hp => ?_) w' v hown hbel⟩
        obtain ⟨q, hq, h1, h2⟩ := enc i _ hp
        injection hq with hq
        subst hq
        rw [hzg i (List.getElem?_eq_some_iff.1 hp).1, h1]
        exact h2
    · cases hc
  · cases hc
theorem collectSF_rows (g : FuncId) (e : TypeId) (xs : List (List PV)) (h : xs.all slOne = true) (hl : xs.length ≤ 1000000) : collectSF g e [.fn g [.pc [.sl 1 xs]]] = some (.nr e 1 xs) := by
  have hb : Nat.ble (xs.length * 24) 140737488351232 = true := Nat.ble_eq_true_of_le (by omega)
  simp only [collectSF, h, hb, beq_self_eq_true, Bool.and_self, if_true]
theorem collectSF_nils (g : FuncId) (e : TypeId) : collectSF g e [.fn g [.pc [.nils]]] = some (.nr e 1 []) := by simp [collectSF]
end Go.Den
