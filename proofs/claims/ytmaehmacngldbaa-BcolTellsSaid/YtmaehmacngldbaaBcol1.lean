/- slices.AppendSeq(nil, slices.Values(s)): a row of its own, of what s holds. -/
import Derived.Test.YtmaehmacngldbaaBcol0
namespace Go.Proofs.Ytmaehmacngldbaa.D
open Go Go.Proofs Go.RowKit Go.Shelf Go.Maps Go.Sort
attribute [local go_sem] Oper.semAt_some
/-- the row so far, in its box -/
def SoFar (w : World) (pre : List SV) (W : World) : Prop :=
  (∃ v, W.heap[w.heap.size]? = some (.cells #[v] 25 (0, 0)) ∧ W.ownsRow w.heap.size 28 1 v pre.length (pre.map encS) ∧ (v = .slice none 0 0 ↔ pre = [])) ∧ Below w.heap.size w W
theorem soFar_own (w : World) (B : Nat) (hB : w.heap.size ≤ B) : OwnFrom B (SoFar w) := fun s W W' row ⟨⟨v, hv, hr, hn⟩, hb⟩ hg hrow => by
  have hrow' : ∀ r, row = some r → ∃ o : Obj, W.heap[r]? = some o ∧ o.isCells = false := fun r e => (hrow r e).2
  refine ⟨⟨v, ?_, ?_, hn⟩, hb.grown hg hb.size (fun k e => Nat.le_trans hB (hrow k e).1)⟩
  · refine (hg.block _ (Array.getElem?_eq_some_iff.1 hv).1 fun e => ?_).trans hv
    obtain ⟨o, ho, hc⟩ := hrow' _ e.symm
    rw [hv] at ho
    cases ho
    cases hc
  · refine hr.kept hg ?_
    rcases hr.2 with ⟨rfl, _⟩ | ⟨g, cap, cur, rfl, _, hgb, _⟩
    · exact .inl rfl
    · refine .inr fun e' => ?_
      obtain ⟨o, ho, hw⟩ := hrow' g (by simpa [Value.ownBlock] using e'.symm)
      rw [hgb] at ho; cases ho; cases hw
set_option linter.unusedSimpArgs false
set_option linter.unusedVariables false
set_option maxRecDepth 100000 in
set_option maxHeartbeats 2000000 in
theorem appendV (F : Fence) (n : Nat) (h11 : F.fn 78) (h7 : F.fn 76) (hro : F.round = none) (hn : 3 ≤ n) (Bs : Addr) (sv : Value) (zs : List SV) (hreach : zs.length * 24 ≤ 140737488351232)
    (w : World) (hBs : Bs.block < w.heap.size) (hc : w.cell? Bs = some sv) (hI : SvAt w.heap.size w sv zs) :
    CallsIn F n Try.prog 78 #[.slice none 0 0, .func (.func 76) #[] #[.pointer (some Bs)]] w fun e w' => ∃ v : Value, e = .returned v ∧ w'.ownsRow w.heap.size 28 1 v zs.length (zs.map encS) ∧ (v = .slice none 0 0 ↔ zs = []) ∧ Below w.heap.size w w' := by
  have h1 : 1 ≤ n := by omega
  refine callsIn_of_wp_marks Try.func78 rfl h11 ?_ hro
  simp only [Try.ntmps78, List.size_toArray, List.length_cons, List.length_nil, Nat.reduceAdd, Nat.reduceSub, Array.replicate_succ, Array.replicate_zero, List.push_toArray, List.append_toArray, List.nil_append, List.cons_append]
  gi_wp2
  have hb0 : Below w.heap.size w (w.alloc (.cells #[.slice none 0 0] 25)) := (Below.refl _ w).alloc (Nat.le_refl _) _
  refine wpIn_rangeFunc_ownG hro h1 (gf := 76) (lb := #[.pointer (some Bs)]) rfl h7 (enters_of Try.func76 (by kernel_rfl) rfl)
    (values_stop F (n - 1) h7 hro (by omega) Bs w.heap.size sv zs hreach w hBs (Nat.le_refl _) hc hI) belowK_t (belowK_b (by simp)) hb0 (fun _ => rfl)
    (SoFar w) (fun _ _ _ => False) (soFar_own w _ (by simp)) (fun _ _ _ _ _ hs _ _ => hs)
    ⟨⟨_, World.alloc_heap_new w _, ⟨rfl, .inl ⟨rfl, rfl⟩⟩, by simp⟩, hb0⟩
    (fun x => { tmps := #[.slice none 0 0, .func (.func 76) #[] #[.pointer (some Bs)], .pointer (some ⟨w.heap.size, 0, none⟩), undef, .slice none 0 0, .slice x.1 x.2.1 x.2.2, .func (.func 76) #[] #[.pointer (some Bs)], .slice x.1 x.2.1 x.2.2, undef, undef, undef, undef, undef], defers := [] }) ?assign ?body ?done ?stop
  case assign =>
    intro l x W K hK
    gi_wp2
    exact hK
  case body =>
    rintro l pre x W ⟨⟨v, hv, hrow, hnil⟩, hB⟩ hlen
    have hne : (25 : TypeId) ≠ 28 := by decide
    obtain ⟨i0, hi, hz0, hz1, hz2⟩ := info_parts (show (Try.prog.info? 28).map (fun i => (i.zero, i.size, i.bytes)) = some (some (.slice none 0 0), 1, 24) by kernel_rfl)
    obtain ⟨hc2, hf2⟩ := cell_of_box_a hv
    have hBlt : w.heap.size < W.heap.size := (Array.getElem?_eq_some_iff.1 hv).1
    have hN : pre.length + 1 ≤ maxLen := by unfold maxLen; omega
    have hNb : (pre.length + 1) * 24 ≤ 140737488355328 := by omega
    have ne_of : ∀ {j : Nat} {o : Obj}, W.heap[j]? = some o → (∀ cur, o ≠ .cells cur 28 (0, 0)) → some j ≠ v.ownBlock := fun hj hno => by
      rcases ownsRow_ne_a hrow hj hno with e | e
      · rw [e]; simp
      · exact fun e' => e e'.symm
    gi_wp2_with (first
      | (gi_at_builtin; refine wpListIn_append_own _ rfl _ _ 25 rfl w.heap.size 28 i0 (.slice none 0 0) 1 24 Try.underlying25 hi hz0 hz1 hz2 rfl (by decide) _ _ _ rfl (hrow.alloc _) ⟨W.heap.size, 0, none⟩ 1 1 [encS x] rfl rfl (cell_one_new _ _ _) (by simp [Value.oneCell', encS]) (by omega) (by omega) (by have := hB.size; simp; omega) ?_; intro v' w3 hown' hg3 hnil3
         have hv3 : w3.heap[w.heap.size]? = some (.cells #[v] 25 (0, 0)) := (hg3.block _ (by simp; omega) (ne_of hv (fun cur e => by first | cases e | exact hne (Obj.cells.inj e).2.1))).trans ((Below.heap_alloc _ _ _ hBlt).trans hv)
         obtain ⟨hc3, hf3⟩ := cell_of_box_a hv3
         obtain ⟨g', cap', cur', rfl, hbase', hgb', hr1, hr2, hr3, hr4⟩ : ∃ g' cap' cur', v' = .slice (some ⟨g', 0, none⟩) (pre.length + 1) cap' ∧ w.heap.size ≤ g' ∧ w3.heap[g']? = some (.cells cur' 28 (0, 0)) ∧ pre.length + 1 ≤ cap' ∧ cap' ≤ maxLen ∧ cur'.size = cap' * 1 ∧ cur'.toList.take ((pre.length + 1) * 1) = pre.map encS ++ [encS x] := by
           rcases hown'.2 with ⟨_, h0⟩ | h'
           · exact absurd h0 (by omega)
           · exact h'
         go_frame)
      | gi_in)
    have hg3' : (W.alloc (.cells #[encS x] 28)).grownBy w3 v.ownBlock := hg3
    have hg4 : w3.grownBy (w3.setCell ⟨w.heap.size, 0, none⟩ (.slice (some ⟨g', 0, none⟩) (pre.length + 1) cap')) (some w.heap.size) := grownBy_setCell0_a _ _ _
    have hb3 : Below w.heap.size w w3 := (hB.alloc hB.size _).grown hg3' (by have := hB.size; simp; omega) (fun k e => (hrow.lt k e).1)
    have hb3' : Below w.heap.size W w3 := ((Below.refl w.heap.size W).alloc hB.size _).grown hg3' (by simp; omega) (fun k e => (hrow.lt k e).1)
    have hcl : ∀ (j : Nat) (o : Obj), v.ownBlock = some j → (W.alloc (.cells #[encS x] 28)).heap[j]? = some o → o.isCells = true := fun j o e ho => by
      rcases (hrow.alloc (.cells #[encS x] 28)).2 with ⟨h, _⟩ | ⟨g, cap, cur, h, _, hgb, _⟩
      · rw [h] at e; simp [Value.ownBlock] at e
      · rw [h] at e
        simp only [Value.ownBlock, Option.some.injEq] at e
        subst e
        rw [hgb] at ho
        cases ho
        rfl
    refine ⟨(((KeepsOthers.alloc W _).trans (KeepsOthers.of_grownBy hg3' hcl)).trans (KeepsOthers.setCell _ _ _)).from _, hb3'.grown hg4 (by have := hb3'.size; omega) (fun k e => by cases e; exact Nat.le_refl _), ⟨⟨_, heap_setCell_box_a _ hv3, ?_, by simp⟩, hb3.grown hg4 hb3.size (fun k e => by cases e; exact Nat.le_refl _)⟩⟩
    have := hown'.kept hg4 (ownsRow_ne_a hown' hv3 (fun cur e => by first | cases e | exact hne (Obj.cells.inj e).2.1))
    simpa using this
  case done =>
    rintro D ys W hD rfl ⟨⟨v, hv, hrow, hnil⟩, hB⟩ hK
    obtain ⟨hc2, hf2⟩ := cell_of_box_a hv
    gi_wp2
    refine ⟨by simp, .inl ⟨_, _, rfl, run_takeDeferred hK, ?_⟩⟩
    exact ⟨_, results_tmp rfl _ _ _, v, rfl, hrow.kept (grownBy_putObj_a _ _ _) (ownsRow_ne_a hrow hK (fun cur e => by cases e)), hnil, hB.grown (grownBy_putObj_a _ _ _) hB.size (fun k e => by cases e; simp at hD; omega)⟩
  case stop =>
    rintro D c pre W _ _ h _
    exact h.elim
set_option maxHeartbeats 1000000 in
theorem collectV (F : Fence) (n : Nat) (h8 : F.fn 74) (h11 : F.fn 78) (h7 : F.fn 76) (hro : F.round = none) (hn : 4 ≤ n) (Bs : Addr) (sv : Value) (zs : List SV) (hreach : zs.length * 24 ≤ 140737488351232)
    (w : World) (hBs : Bs.block < w.heap.size) (hc : w.cell? Bs = some sv) (hI : SvAt w.heap.size w sv zs) :
    CallsIn F n Try.prog 74 #[.func (.func 76) #[] #[.pointer (some Bs)]] w fun e w' => ∃ v : Value, e = .returned v ∧ w'.ownsRow w.heap.size 28 1 v zs.length (zs.map encS) ∧ (v = .slice none 0 0 ↔ zs = []) ∧ Below w.heap.size w w' := by
  have h1 : 1 ≤ n := by omega
  refine callsIn_of_wp Try.func74 rfl h8 ?_ hro
  simp only [Try.ntmps74, List.size_toArray, List.length_cons, List.length_nil, Nat.reduceAdd, Nat.reduceSub, Array.replicate_succ, Array.replicate_zero, List.push_toArray, List.append_toArray, List.nil_append, List.cons_append]
  gi_wp2_with (gi_at_call 78; refine (appendV F (n - 1) h11 h7 hro (by omega) Bs sv zs hreach _ hBs hc hI).mono ?_; rintro e w' ⟨v, rfl, hrow, hnil, hb⟩)
  go_ret
  exact ⟨v, rfl, hrow, hnil, hb⟩
theorem collect_runs (Bs : Addr) (sv : Value) (zs : List SV) (hreach : zs.length * 24 ≤ 140737488351232) (w : World) (hBs : Bs.block < w.heap.size) (hc : w.cell? Bs = some sv) (hI : SvAt w.heap.size w sv zs) :
    Calls Try.prog 74 #[.func (.func 76) #[] #[.pointer (some Bs)]] w fun e w' => ∃ v : Value, e = .returned v ∧ w'.ownsRow w.heap.size 28 1 v zs.length (zs.map encS) ∧ (v = .slice none 0 0 ↔ zs = []) ∧ Below w.heap.size w w' :=
  callsIn_wide.1 (collectV Fence.wide 5 trivial trivial trivial rfl (by decide) Bs sv zs hreach w hBs hc hI)
end Go.Proofs.Ytmaehmacngldbaa.D
