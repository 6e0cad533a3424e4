/- Den, part Zd: the rows by which simp walks a code. -/
import Derived.Test.YtepofpmohiegpaaDenZc
import Derived.Laws.BitsLemmas
namespace Go.Den
open Go
theorem get_at {α : Type} (k i : Nat) (v : α) (r : List (Nat × α)) : get ((k, v) :: r) i = if k == i then some v else get r i := rfl
theorem get_no {α : Type} (i : Nat) : get ([] : List (Nat × α)) i = none := rfl
theorem ble_eq (m n : Nat) : Nat.ble m n = decide (m ≤ n) := by
  cases h : Nat.ble m n
  · have : ¬ m ≤ n := fun hc => by simp [Nat.ble_eq_true_of_le hc] at h
    simp [this]
  · simp [Nat.le_of_ble_eq_true h]
theorem blt_eq (m n : Nat) : Nat.blt m n = decide (m < n) := ble_eq _ _
theorem wrap_u64 (n : Int) : IntKind.u64.wrap n = n % 18446744073709551616 := by simp [IntKind.wrap, IntKind.bits, IntKind.signed]
/-- A step: the number of what is new stays a number without names. -/
theorem stepO_mk (E : Env) (call : Call) (ops : Array Oper) (i : Nat) (o : Oper) (sl : List (Nat × PV)) (m : List (Nat × Option Ent)) (ep : Nat) : stepO E call ops i o ⟨sl, m, ep⟩ =
    match wantsO ops o ⟨sl, m, ep⟩ with
    | none => none
    | some false => some (St.put ⟨sl, m, ep⟩ o.dst .undef [], ⟨[], [], [], []⟩)
    | some true =>
      match (opSem E call (ep * 33554432 + i * 64) (St.slot ⟨sl, m, ep⟩) o.op).run (St.at ⟨sl, m, ep⟩) with
      | some ((v, w), rc, ro) => some (St.put ⟨sl, m, ep⟩ o.dst v w, ⟨rc, ro, wrHard w, wrSoft w⟩)
      | none => none := rfl
theorem lent0 : lentId 0 = 16777216 := rfl
theorem lent1 : lentId 1 = 16777217 := rfl
theorem lent2 : lentId 2 = 16777218 := rfl
theorem lent3 : lentId 3 = 16777219 := rfl
/-! bits, without a sign and with one -/
def band (w : Nat) (a b : Int) : Int := ((BitVec.ofInt w a &&& BitVec.ofInt w b).toNat : Int)
def bor (w : Nat) (a b : Int) : Int := ((BitVec.ofInt w a ||| BitVec.ofInt w b).toNat : Int)
def bxor (w : Nat) (a b : Int) : Int := ((BitVec.ofInt w a ^^^ BitVec.ofInt w b).toNat : Int)
def sand (a b : Int) : Int := (BitVec.ofInt 64 a &&& BitVec.ofInt 64 b).toInt
def sor (a b : Int) : Int := (BitVec.ofInt 64 a ||| BitVec.ofInt 64 b).toInt
def sxor (a b : Int) : Int := (BitVec.ofInt 64 a ^^^ BitVec.ofInt 64 b).toInt
theorem wu64 (x : BitVec 64) : IntKind.u64.wrap x.toNat = (x.toNat : Int) := by rw [wrap_u64]; have := x.isLt; omega
theorem wu8 (x : BitVec 8) : IntKind.u8.wrap x.toNat = (x.toNat : Int) := by rw [IntKind.wrap_u8]; have := x.isLt; omega
theorem wi64 (x : BitVec 64) : IntKind.i64.wrap x.toNat = x.toInt := by rw [IntKind.wrap_i64, BitVec.toInt_eq_toNat_cond]; have := x.isLt; split <;> omega
theorem bin_and_u8 (a b : Int) : binInt .and .u8 a b = some (.int .u8 (band 8 a b)) := congrArg (fun x => some (PV.int .u8 x)) (wu8 _)
theorem bin_or_u8 (a b : Int) : binInt .or .u8 a b = some (.int .u8 (bor 8 a b)) := congrArg (fun x => some (PV.int .u8 x)) (wu8 _)
theorem bin_xor_u8 (a b : Int) : binInt .xor .u8 a b = some (.int .u8 (bxor 8 a b)) := congrArg (fun x => some (PV.int .u8 x)) (wu8 _)
theorem bin_and_u64 (a b : Int) : binInt .and .u64 a b = some (.int .u64 (band 64 a b)) := congrArg (fun x => some (PV.int .u64 x)) (wu64 _)
theorem bin_or_u64 (a b : Int) : binInt .or .u64 a b = some (.int .u64 (bor 64 a b)) := congrArg (fun x => some (PV.int .u64 x)) (wu64 _)
theorem bin_xor_u64 (a b : Int) : binInt .xor .u64 a b = some (.int .u64 (bxor 64 a b)) := congrArg (fun x => some (PV.int .u64 x)) (wu64 _)
theorem bin_and_i64 (a b : Int) : binInt .and .i64 a b = some (.int .i64 (sand a b)) := congrArg (fun x => some (PV.int .i64 x)) (wi64 _)
theorem bin_or_i64 (a b : Int) : binInt .or .i64 a b = some (.int .i64 (sor a b)) := congrArg (fun x => some (PV.int .i64 x)) (wi64 _)
theorem bin_xor_i64 (a b : Int) : binInt .xor .i64 a b = some (.int .i64 (sxor a b)) := congrArg (fun x => some (PV.int .i64 x)) (wi64 _)
theorem bin_add (k : IntKind) (a b : Int) : binInt .add k a b = some (.int k (k.wrap (a + b))) := rfl
theorem bin_sub (k : IntKind) (a b : Int) : binInt .sub k a b = some (.int k (k.wrap (a - b))) := rfl
theorem bin_mul (k : IntKind) (a b : Int) : binInt .mul k a b = some (.int k (k.wrap (a * b))) := rfl
theorem bin_quo (k : IntKind) (a b : Int) : binInt .quo k a b = if b = 0 then none else some (.int k (k.wrap (a.tdiv b))) := rfl
theorem bin_rem (k : IntKind) (a b : Int) : binInt .rem k a b = if b = 0 then none else some (.int k (a.tmod b)) := rfl
theorem bin_eql (k : IntKind) (a b : Int) : binInt .eql k a b = some (.bool (decide (a = b))) := rfl
theorem bin_neq (k : IntKind) (a b : Int) : binInt .neq k a b = some (.bool (!decide (a = b))) := rfl
theorem bin_lss (k : IntKind) (a b : Int) : binInt .lss k a b = some (.bool (decide (a < b))) := rfl
theorem bin_leq (k : IntKind) (a b : Int) : binInt .leq k a b = some (.bool (decide (a ≤ b))) := rfl
theorem bin_gtr (k : IntKind) (a b : Int) : binInt .gtr k a b = some (.bool (decide (b < a))) := rfl
theorem bin_geq (k : IntKind) (a b : Int) : binInt .geq k a b = some (.bool (decide (b ≤ a))) := rfl
attribute [go_sem] bin_and_u8 bin_or_u8 bin_xor_u8 bin_and_u64 bin_or_u64 bin_xor_u64 bin_and_i64 bin_or_i64 bin_xor_i64 bin_add bin_sub bin_mul bin_quo bin_rem bin_eql bin_neq bin_lss bin_leq bin_gtr bin_geq
theorem str_add (a b : List UInt8) : binStr .add a b = if a.length + b.length ≤ 9223372036854775807 then some (.str (a ++ b)) else none := rfl
theorem str_eql (a b : List UInt8) : binStr .eql a b = some (.bool (a == b)) := rfl
theorem str_neq (a b : List UInt8) : binStr .neq a b = some (.bool (!(a == b))) := rfl
theorem str_lss (a b : List UInt8) : binStr .lss a b = some (.bool (Op.bytesLess a b)) := rfl
theorem str_leq (a b : List UInt8) : binStr .leq a b = some (.bool (Op.bytesLess a b || a == b)) := rfl
theorem str_gtr (a b : List UInt8) : binStr .gtr a b = some (.bool (!(Op.bytesLess a b || a == b))) := rfl
theorem str_geq (a b : List UInt8) : binStr .geq a b = some (.bool (!Op.bytesLess a b)) := rfl
theorem bb_t (b : Bool) : (b == true) = b := by cases b <;> rfl
theorem bb_f (b : Bool) : (b == false) = !b := by cases b <;> rfl
theorem tb_b (b : Bool) : (true == b) = b := by cases b <;> rfl
theorem fb_b (b : Bool) : (false == b) = !b := by cases b <;> rfl
attribute [go_sem] runs_seq runs_region runs_cond runs_block runs_ret runs_exit runs_skip next leave runO stepO_mk wantsO opSem evOp evOps evParts St.slot St.at atM get_at get_no retO RM.of RM.bind RM.run St.put putMs putM constPV evBin evUn IntKind.bits convS
  finish resOs resO expVs expL expB entry ble_eq blt_eq wrap_u64 IntKind.wrap_u8 IntKind.wrap_i64 IntKind.signed
  mkv sealL sealLL lenS minmaxS appendTo appendS builtinSem loadC loadS storeS splice fillF buildS fieldAddrS indexAddrS indexS bnd bounds sliceS makeS buildSliceS
  callSem callOf lent0 lent1 lent2 lent3 impL impVs impB lim
  List.zipIdx_cons List.zipIdx_nil List.map_cons List.map_nil List.length_nil List.size_toArray List.length_cons Bool.false_eq_true Bool.not_false Bool.not_true Bool.true_or Bool.or_true Bool.false_or Bool.or_false Bool.and_true Bool.true_and Bool.false_and Bool.and_false
  decide_true decide_false true_and and_true false_and and_false List.range_zero List.isEmpty_nil List.isEmpty_cons List.any_nil List.any_cons List.all_nil List.all_cons List.append_nil List.nil_append List.cons_append List.filterMap_nil List.filterMap_cons
  List.getElem?_cons_zero List.getElem?_cons_succ List.getElem?_nil List.getElem?_toArray Option.isSome_none Option.isNone_none Option.map_none Option.map_some Option.bind_some Option.bind_none Option.isSome_some Option.isNone_some
  if_true if_false ite_true ite_false List.drop_zero List.drop_succ_cons List.take_zero List.take_succ_cons List.drop_nil List.take_nil beq_self_eq_true bb_t bb_f tb_b fb_b str_add str_eql str_neq str_lss str_leq str_gtr str_geq List.take_length ite_self or_false false_or or_true true_or or_self and_self not_true_eq_false not_false_eq_true ne_eq Bool.and_self Bool.or_self Bool.not_not
end Go.Den
