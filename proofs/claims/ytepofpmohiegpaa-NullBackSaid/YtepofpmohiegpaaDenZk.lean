/- Den, part Zk: schemas and rows of numbers. No program in sight. -/
import Derived.Test.YtepofpmohiegpaaDenZj
namespace Go.Den
open Go
def nameN (i : Nat) : List UInt8 := ([[97], [98, 98], [99, 99, 99], [110, 117, 108, 108], [97, 110, 100]] : List (List UInt8)).getD i []
def keyCol : Col := ⟨[107, 101, 121], 1, false⟩
def colN (n : Int) (i : Nat) : Col := ⟨nameN i, n.fdiv (2 ^ (8 + 2 * i)) % 2 + 1, decide (n.fdiv (2 ^ (9 + 2 * i)) % 2 = 1)⟩
def colsN (n : Int) (i : Nat) : List Col := keyCol :: (List.range i).map (colN n)
def manyN (n : Int) : Nat := (n % 256 % 6).toNat
def schemaN (n : Int) : List Col := colsN n (manyN n)
theorem manyN_lt (n : Int) : manyN n < 6 := by unfold manyN; omega
theorem colsN_length (n : Int) (i : Nat) : (colsN n i).length = i + 1 := by simp [colsN]
theorem schemaN_length (n : Int) : (schemaN n).length ≤ 6 := by have := manyN_lt n; rw [schemaN, colsN_length]; omega
theorem schemaN_pos (n : Int) : 1 ≤ (schemaN n).length := by rw [schemaN, colsN_length]; omega
theorem colsN_succ (n : Int) (i : Nat) : colsN n (i + 1) = colsN n i ++ [colN n i] := by simp [colsN, List.range_succ]
def intV (n : Int) : Int :=
  if n.fdiv 64 % 16 = 0 then (n * 712544676207699905 + 9223372036854775808) % 18446744073709551616 - 9223372036854775808
  else if n.fdiv 64 % 16 = 1 then -(n.fdiv 8 % 8) else if n.fdiv 64 % 16 = 2 then 9223372036854775807 - n.fdiv 8 % 8 else n.fdiv 8 % 8
def bytesV (n : Int) : List Int := (([97, 98, 99, 97, 98, 99, 97, 98] : List Int).take (n.fdiv 8 % 4 + n.fdiv 32 % 4).toNat).drop (n.fdiv 8 % 4).toNat
def valueN (c : Col) (n : Int) : Val :=
  if c.null = true ∧ n % 8 = 0 then ⟨true, c.kind, 0, none⟩ else if c.kind = 1 then ⟨false, c.kind, intV n, none⟩ else ⟨false, c.kind, 0, some (bytesV n)⟩
def rowE (n : Int) (i : Nat) (c : Col) : Val := if i = 0 then ⟨false, 1, n % 16, none⟩ else valueN c (sxor (n.fdiv (2 ^ (3 * i))) (n.fdiv 131072))
def rowN (s : List Col) (n : Int) : List Val := s.mapIdx (rowE n)
theorem rowN_length (s : List Col) (n : Int) : (rowN s n).length = s.length := by simp [rowN]
theorem rowN_get {s : List Col} {n : Int} {i : Nat} {c : Col} (h : s[i]? = some c) : (rowN s n)[i]? = some (rowE n i c) := by simp [rowN, h]
end Go.Den
