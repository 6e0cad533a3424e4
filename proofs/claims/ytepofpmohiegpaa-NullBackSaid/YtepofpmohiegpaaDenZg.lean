/- Den, part Zg: rows of numbers, in the words of the walk; a loop's head. -/
import Derived.Test.YtepofpmohiegpaaDenZe
import Derived.Test.YtepofpmohiegpaaDenZf
namespace Go.Den
open Go

/-! ### a loop's head -/
attribute [go_sem] norm normL normLeafs normLent twice nodupB leafId boxId isLent firstRid List.flatMap_cons List.flatMap_nil
theorem bne_int (a b : Int) : (a != b) = !decide (a = b) := rfl
theorem beq_int (a b : Int) : (a == b) = decide (a = b) := rfl
theorem beq_nat (a b : Nat) : (a == b) = decide (a = b) := rfl

theorem cast0 : ((0 : Nat) : Int) = 0 := rfl
theorem cast1 : ((1 : Nat) : Int) = 1 := rfl
theorem cast2 : ((2 : Nat) : Int) = 2 := rfl
theorem cast3 : ((3 : Nat) : Int) = 3 := rfl
theorem cast4 : ((4 : Nat) : Int) = 4 := rfl
theorem cast5 : ((5 : Nat) : Int) = 5 := rfl
theorem cast6 : ((6 : Nat) : Int) = 6 := rfl
theorem cast7 : ((7 : Nat) : Int) = 7 := rfl
theorem cast8 : ((8 : Nat) : Int) = 8 := rfl
theorem cast9 : ((9 : Nat) : Int) = 9 := rfl
theorem cast10 : ((10 : Nat) : Int) = 10 := rfl
theorem cast11 : ((11 : Nat) : Int) = 11 := rfl
theorem cast12 : ((12 : Nat) : Int) = 12 := rfl
theorem cast13 : ((13 : Nat) : Int) = 13 := rfl
theorem cast14 : ((14 : Nat) : Int) = 14 := rfl
theorem cast15 : ((15 : Nat) : Int) = 15 := rfl
theorem cast16 : ((16 : Nat) : Int) = 16 := rfl
theorem cast17 : ((17 : Nat) : Int) = 17 := rfl
theorem cast18 : ((18 : Nat) : Int) = 18 := rfl
theorem cast19 : ((19 : Nat) : Int) = 19 := rfl
theorem cast20 : ((20 : Nat) : Int) = 20 := rfl
theorem cast21 : ((21 : Nat) : Int) = 21 := rfl
theorem cast22 : ((22 : Nat) : Int) = 22 := rfl
theorem cast23 : ((23 : Nat) : Int) = 23 := rfl
theorem cast24 : ((24 : Nat) : Int) = 24 := rfl
theorem cast25 : ((25 : Nat) : Int) = 25 := rfl
theorem cast26 : ((26 : Nat) : Int) = 26 := rfl
theorem cast27 : ((27 : Nat) : Int) = 27 := rfl
theorem cast28 : ((28 : Nat) : Int) = 28 := rfl
theorem cast29 : ((29 : Nat) : Int) = 29 := rfl
theorem cast30 : ((30 : Nat) : Int) = 30 := rfl
theorem cast31 : ((31 : Nat) : Int) = 31 := rfl
theorem cast32 : ((32 : Nat) : Int) = 32 := rfl
theorem cast33 : ((33 : Nat) : Int) = 33 := rfl
theorem cast34 : ((34 : Nat) : Int) = 34 := rfl
theorem cast35 : ((35 : Nat) : Int) = 35 := rfl
theorem cast36 : ((36 : Nat) : Int) = 36 := rfl
theorem cast37 : ((37 : Nat) : Int) = 37 := rfl
theorem cast38 : ((38 : Nat) : Int) = 38 := rfl
theorem cast39 : ((39 : Nat) : Int) = 39 := rfl
theorem cast40 : ((40 : Nat) : Int) = 40 := rfl
theorem cast41 : ((41 : Nat) : Int) = 41 := rfl
theorem cast42 : ((42 : Nat) : Int) = 42 := rfl
theorem cast43 : ((43 : Nat) : Int) = 43 := rfl
theorem cast44 : ((44 : Nat) : Int) = 44 := rfl
theorem cast45 : ((45 : Nat) : Int) = 45 := rfl
theorem cast46 : ((46 : Nat) : Int) = 46 := rfl
theorem cast47 : ((47 : Nat) : Int) = 47 := rfl
theorem cast48 : ((48 : Nat) : Int) = 48 := rfl
theorem cast49 : ((49 : Nat) : Int) = 49 := rfl
theorem cast50 : ((50 : Nat) : Int) = 50 := rfl
theorem cast51 : ((51 : Nat) : Int) = 51 := rfl
theorem cast52 : ((52 : Nat) : Int) = 52 := rfl
theorem cast53 : ((53 : Nat) : Int) = 53 := rfl
theorem cast54 : ((54 : Nat) : Int) = 54 := rfl
theorem cast55 : ((55 : Nat) : Int) = 55 := rfl
theorem cast56 : ((56 : Nat) : Int) = 56 := rfl
theorem cast57 : ((57 : Nat) : Int) = 57 := rfl
theorem cast58 : ((58 : Nat) : Int) = 58 := rfl
theorem cast59 : ((59 : Nat) : Int) = 59 := rfl
theorem cast60 : ((60 : Nat) : Int) = 60 := rfl
theorem cast61 : ((61 : Nat) : Int) = 61 := rfl
theorem cast62 : ((62 : Nat) : Int) = 62 := rfl
theorem cast63 : ((63 : Nat) : Int) = 63 := rfl
theorem cast64 : ((64 : Nat) : Int) = 64 := rfl
theorem cast65 : ((65 : Nat) : Int) = 65 := rfl
theorem cast66 : ((66 : Nat) : Int) = 66 := rfl
theorem cast67 : ((67 : Nat) : Int) = 67 := rfl
theorem cast68 : ((68 : Nat) : Int) = 68 := rfl
theorem cast69 : ((69 : Nat) : Int) = 69 := rfl
theorem castLim : ((70368744177664 : Nat) : Int) = 70368744177664 := rfl
attribute [go_sem] castLim cast0 cast1 cast2 cast3 cast4 cast5 cast6 cast7 cast8 cast9 cast10 cast11 cast12 cast13 cast14 cast15 cast16 cast17 cast18 cast19 cast20 cast21 cast22 cast23 cast24 cast25 cast26 cast27 cast28 cast29 cast30 cast31 cast32 cast33 cast34 cast35 cast36 cast37 cast38 cast39 cast40 cast41 cast42 cast43 cast44 cast45 cast46 cast47 cast48 cast49 cast50 cast51 cast52 cast53 cast54 cast55 cast56 cast57 cast58 cast59 cast60 cast61 cast62 cast63 cast64 cast65 cast66 cast67 cast68 cast69
/-! ### rows of numbers -/
def ints (k : IntKind) (zs : List Int) : List (List PV) := zs.map fun z => [PV.int k z]
variable {k : IntKind}
theorem ints_length (zs : List Int) : (ints k zs).length = zs.length := by simp [ints]
theorem ints_get (zs : List Int) (i : Nat) : (ints k zs)[i]? = zs[i]?.map fun z => [PV.int k z] := by simp [ints]
theorem ints_set (zs : List Int) (i : Nat) (z : Int) : (ints k zs).set i [.int k z] = ints k (zs.set i z) := by simp [ints, List.map_set]
theorem ints_append (xs ys : List Int) : ints k xs ++ ints k ys = ints k (xs ++ ys) := by simp [ints]
theorem ints_snoc (zs : List Int) (z : Int) : ints k zs ++ [[.int k z]] = ints k (zs ++ [z]) := by simp [ints]
theorem ints_one (z : Int) : [[PV.int k z]] = ints k [z] := rfl
theorem ints_cons (z : Int) (zs : List Int) : [PV.int k z] :: ints k zs = ints k (z :: zs) := rfl
theorem ints_take (zs : List Int) (n : Nat) : (ints k zs).take n = ints k (zs.take n) := by simp [ints, List.map_take]
theorem ints_drop (zs : List Int) (n : Nat) : (ints k zs).drop n = ints k (zs.drop n) := by simp [ints, List.map_drop]
theorem ints_rep (n : Nat) (z : Int) : List.replicate n [PV.int k z] = ints k (List.replicate n z) := by simp [ints]
theorem ints_nil : ints k [] = [] := rfl
theorem ints_empty (zs : List Int) : (ints k zs).isEmpty = zs.isEmpty := by cases zs <;> rfl
theorem ints_shares (zs : List Int) : ((ints k zs).any fun x => x.any sharesP) = false := by
  rw [List.any_eq_false]
  intro x hx
  obtain ⟨z, _, rfl⟩ := List.mem_map.1 hx
  simp [sharesP]
theorem sealLL_ints (zs : List Int) : sealLL (ints k zs) = .ret (ints k zs, []) := by
  induction zs with
  | nil => rfl
  | cons z r ih =>
    show (sealL [PV.int k z]).bind _ = _
    show (sealLL (ints k r)).bind (fun y => RM.ret ([PV.int k z] :: y.1, [] ++ y.2)) = _
    rw [ih]
    rfl
def toU8 (z : Int) : UInt8 := UInt8.ofNat z.toNat
theorem toBytes_ints (zs : List Int) : toBytes (ints .u8 zs) = some (zs.map toU8) := by
  induction zs with
  | nil => rfl
  | cons z r ih =>
    show (match toBytes (ints .u8 r) with | some l => some (UInt8.ofNat z.toNat :: l) | none => none) = _
    rw [ih]
    rfl
theorem ofBytes_ints (l : List UInt8) : ofBytes l = ints .u8 (l.map fun b => (b.toNat : Int)) := by simp [ofBytes, ints]
theorem cloneF_sl (e b : Nat) (zs : List Int) (h : zs.length * (b + 1) ≤ 70368744177664) : cloneF e 1 b [.sl 1 (ints k zs)] = some (.nr e 1 (ints k zs)) := by
  simp only [cloneF, ints_length, beq_self_eq_true, Bool.true_and, ble_eq, h, decide_true, if_true]
theorem cloneF_nils (e sz b : Nat) : cloneF e sz b [.nils] = some (.nr e sz []) := rfl
def fillFrom (z : List PV) (parts : List (Nat × List PV)) (i : Nat) : Nat → List (List PV)
  | 0 => []
  | n + 1 => (get parts i).getD z :: fillFrom z parts (i + 1) n
theorem fillFrom_eq (z : List PV) (parts : List (Nat × List PV)) : ∀ (n i : Nat), fillFrom z parts i n = (List.range' i n).map fun j => (get parts j).getD z
  | 0, _ => rfl
  | n + 1, i => by rw [fillFrom, fillFrom_eq z parts n, List.range'_succ, List.map_cons]
theorem fillE_eq (z : List PV) (n : Nat) (parts : List (Nat × List PV)) : fillE z n parts = fillFrom z parts 0 n := by
  rw [fillFrom_eq, fillE, List.range_eq_range']
attribute [go_sem] nodupK fillE_eq fillFrom Option.getD_some Option.getD_none ints_length ints_get ints_set ints_append ints_one ints_cons ints_take ints_drop ints_rep ints_empty ints_shares sealLL_ints toBytes_ints ofBytes_ints beq_nat Int.toNat_natCast
end Go.Den
