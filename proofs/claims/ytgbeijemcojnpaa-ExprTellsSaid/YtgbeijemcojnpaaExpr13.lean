/- An op of numbers, with one thing of it turned. -/
import Derived.Test.YtgbeijemcojnpaaExpr12
namespace Go.Proofs.Ytgbeijemcojnpaa.D
open Go Go.Den
set_option linter.unusedSimpArgs false
set_option linter.unusedVariables false
set_option maxRecDepth 20000
set_option maxHeartbeats 8000000
/-- one thing of an op turned -/
def turnX (u : Int) (o : OpN) : OpN :=
  if u % 8 = 0 then ⟨u / 8 % 8, o.rn, o.row, o.pred, o.sn, o.sets, o.cn, o.cols, o.group, o.an, o.aggs⟩
  else if u % 8 = 1 then ⟨o.kind, o.rn, o.row, o.pred, o.sn, o.sets, o.cn, o.cols, u / 8 % 16 - 3, o.an, o.aggs⟩
  else if u % 8 = 2 then ⟨o.kind, o.rn, o.row, o.pred, o.sn, o.sets, false, o.cols ++ [u / 8 % 16 - 3], o.group, o.an, o.aggs⟩
  else if u % 8 = 3 then ⟨o.kind, o.rn, o.row, o.pred, o.sn, o.sets, o.cn, o.cols, o.group, false, o.aggs ++ [⟨u / 8 % 8, u / 64 % 8 - 1⟩]⟩
  else if u % 8 = 4 then ⟨o.kind, o.rn, o.row, o.pred, false, o.sets ++ [⟨u / 8 % 8 - 1, decide (u / 64 % 2 = 1), ⟨decide (u / 512 % 2 = 1), u / 128 % 4, 0, none⟩⟩], o.cn, o.cols, o.group, o.an, o.aggs⟩
  else if u % 8 = 5 then ⟨o.kind, o.rn, o.row, zP, o.sn, o.sets, o.cn, o.cols, o.group, o.an, o.aggs⟩
  else if u % 8 = 6 then ⟨o.kind, false, o.row ++ [⟨false, 1, 0, none⟩], o.pred, o.sn, o.sets, o.cn, o.cols, o.group, o.an, o.aggs⟩
  else o
structure Small (o : OpN) : Prop where
  r : o.row.length ≤ 20
  s : o.sets.length ≤ 20
  c : o.cols.length ≤ 20
  a : o.aggs.length ≤ 20
theorem GenF_small {m : Int} {p : Prd} {o : OpN} (h : GenF (schemaN m) p o) : Small o := by
  have := schemaN_length m
  cases h with
  | ins x => exact ⟨by rw [rowN_length]; omega, by simp, by simp, by simp⟩
  | _ => exact ⟨by simp, by simp, by simp, by simp⟩
theorem turnX_ok {u : Int} {o : OpN} (h : OpOk o ∧ OpBy o) (hs : Small o) : OpOk (turnX u o) ∧ OpBy (turnX u o) := by
  obtain ⟨⟨h1, h2, h3, h4, h5⟩, h6, h7⟩ := h
  obtain ⟨s1, s2, s3, s4⟩ := hs
  have hz : Sl zP := .mk (by simp [valZ, bz]) (by simp) (by simp)
  unfold turnX
  split
  · exact ⟨⟨h1, h2, h3, h4, h5⟩, h6, h7⟩
  split
  · exact ⟨⟨h1, h2, h3, h4, h5⟩, h6, h7⟩
  split
  · exact ⟨⟨h1, h2, h3, by simp; omega, h5⟩, h6, h7⟩
  split
  · exact ⟨⟨h1, h2, h3, h4, by simp; omega⟩, h6, h7⟩
  split
  · refine ⟨⟨h1, h2, by simp; omega, h4, h5⟩, h6, fun y hy => ?_⟩
    rcases List.mem_append.1 hy with hy | hy
    · exact h7 y hy
    · simp only [List.mem_singleton] at hy; subst hy; simp [bz]
  split
  · exact ⟨⟨hz, h2, h3, h4, h5⟩, h6, h7⟩
  split
  · refine ⟨⟨h1, by simp; omega, h3, h4, h5⟩, fun y hy => ?_, h7⟩
    rcases List.mem_append.1 hy with hy | hy
    · exact h6 y hy
    · simp only [List.mem_singleton] at hy; subst hy; simp [bz]
  · exact ⟨⟨h1, h2, h3, h4, h5⟩, h6, h7⟩
theorem pl_rows {p : Prd} (h : p.nil = true) : (pl p.nil p.list = .nils ∧ plr 35 p.list = .nils) ∨ ∃ R, pl p.nil p.list = .sl 8 R ∧ plr 35 p.list = .nr 35 8 R := by
  rcases pl_list h with ⟨_, h1, h2⟩ | ⟨a, r, _, h1, h2⟩
  · exact .inl ⟨h1, h2⟩
  · exact .inr ⟨_, h1, h2⟩
theorem ls : (type_of% @List.cons_append.{0}) ∧ (type_of% @List.nil_append.{0}) ∧ (type_of% @List.map_nil.{0, 0}) ∧ (type_of% @List.map_cons.{0, 0}) ∧ (type_of% @List.map_append.{0, 0}) ∧ (type_of% @List.length_cons.{0}) ∧ (type_of% @sf_nils) ∧ (type_of% @sf_row) := ⟨@List.cons_append, @List.nil_append, @List.map_nil, @List.map_cons, @List.map_append, @List.length_cons, @sf_nils, @sf_row⟩
theorem sn : (type_of% @sand63) ∧ (type_of% @sand7) ∧ (type_of% @sand15) ∧ (type_of% @sand1) ∧ (type_of% @sand3) := ⟨@sand63, @sand7, @sand15, @sand1, @sand3⟩
theorem mem_ops {o x : OpN} {raw : List OpN} (ho : OpOk o ∧ OpBy o) (hx : OpOk x ∧ OpBy x) (hr : ∀ y ∈ raw, OpOk y ∧ OpBy y) : ∀ y ∈ o :: x :: raw, OpOk y ∧ OpBy y := fun y hy => by
  rcases List.mem_cons.1 hy with rfl | hy
  · exact ho
  · rcases List.mem_cons.1 hy with rfl | hy
    · exact hx
    · exact hr y hy
end Go.Proofs.Ytgbeijemcojnpaa.D
