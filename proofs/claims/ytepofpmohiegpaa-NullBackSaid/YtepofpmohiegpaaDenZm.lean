/- Den, part Zm: rows of bools, and their bytes. No program in sight. -/
import Derived.Test.YtepofpmohiegpaaDenZl
namespace Go.Den
open Go
def bools (bs : List Bool) : List (List PV) := bs.map fun b => [PV.bool b]
theorem bools_length (bs : List Bool) : (bools bs).length = bs.length := by simp [bools]
theorem bools_get (bs : List Bool) (i : Nat) : (bools bs)[i]? = bs[i]?.map fun b => [PV.bool b] := by simp [bools]
theorem bools_set (bs : List Bool) (i : Nat) (b : Bool) : (bools bs).set i [.bool b] = bools (bs.set i b) := by simp [bools, List.map_set]
theorem bools_append (xs ys : List Bool) : bools xs ++ bools ys = bools (xs ++ ys) := by simp [bools]
theorem bools_one (b : Bool) : [[PV.bool b]] = bools [b] := rfl
theorem bools_cons (b : Bool) (bs : List Bool) : [PV.bool b] :: bools bs = bools (b :: bs) := rfl
theorem bools_take (bs : List Bool) (n : Nat) : (bools bs).take n = bools (bs.take n) := by simp [bools, List.map_take]
theorem bools_drop (bs : List Bool) (n : Nat) : (bools bs).drop n = bools (bs.drop n) := by simp [bools, List.map_drop]
theorem bools_rep (n : Nat) (b : Bool) : List.replicate n [PV.bool b] = bools (List.replicate n b) := by simp [bools]
theorem bools_empty (bs : List Bool) : (bools bs).isEmpty = bs.isEmpty := by cases bs <;> rfl
theorem bools_shares (bs : List Bool) : ((bools bs).any fun x => x.any sharesP) = false := by
  rw [List.any_eq_false]
  intro x hx
  obtain ⟨z, _, rfl⟩ := List.mem_map.1 hx
  simp [sharesP]
theorem sealLL_bools (bs : List Bool) : sealLL (bools bs) = .ret (bools bs, []) := by
  induction bs with
  | nil => rfl
  | cons z r ih =>
    show (sealL [PV.bool z]).bind _ = _
    show (sealLL (bools r)).bind (fun y => RM.ret ([PV.bool z] :: y.1, [] ++ y.2)) = _
    rw [ih]
    rfl
attribute [go_sem] bools_length bools_get bools_set bools_append bools_one bools_cons bools_take bools_drop bools_rep bools_empty bools_shares sealLL_bools
/-! ### their bytes -/
def bitI (b : Bool) : Int := if b then 1 else 0
def countL (l : List Bool) : Nat := l.count true
def encN (l : List Bool) : List Int := num l.length ++ (if countL l = 0 then [0] else if countL l = l.length then [1] else [2] ++ packL 1 (l.map bitI))
def boolsN (l : List Int) (how : Int) : List Bool := (l.take 60).map fun z => decide (how % 4 = 1) || (decide (1 < how % 4) && decide (z % 2 = 1))
def mixedN (zs : List Int) (n : Nat) : Option (List Bool) :=
  if zs.length < (n + 7) / 8 then none else match unpack 1 (zs.take ((n + 7) / 8)) n with | some ws => some (ws.map fun u => decide (u = 1)) | none => none
def tellN (t : Int) (b : List Int) (n : Nat) : Option (List Bool) :=
  if t = 0 then some (List.replicate n false) else if t = 1 then some (List.replicate n true) else if t = 2 then mixedN b n else none
def decN (zs : List Int) : Option (List Bool × List Int) :=
  match pnum 0 0 zs with
  | none => none
  | some (n, r) =>
    if 65535 < n then none else
    match r with
    | [] => none
    | t :: b =>
      match tellN t b n.toNat with
      | none => none
      | some l => if (encN l).length ≤ zs.length ∧ encN l = zs.take (encN l).length then some (l, zs.drop (encN l).length) else none
theorem bits_R64 (l : List Bool) : R64 (l.map bitI) := fun z hz => by
  obtain ⟨b, _, rfl⟩ := List.mem_map.1 hz
  cases b <;> decide
theorem countL_le (l : List Bool) : countL l ≤ l.length := List.count_le_length
theorem countL_zero {l : List Bool} (h : countL l = 0) : l = List.replicate l.length false := by
  refine List.eq_replicate_iff.2 ⟨rfl, fun b hb => ?_⟩
  cases b
  · rfl
  · exact absurd hb (List.count_eq_zero.1 h)
theorem countL_all {l : List Bool} (h : countL l = l.length) : l = List.replicate l.length true :=
  List.eq_replicate_iff.2 ⟨rfl, fun b hb => (List.count_eq_length.1 h b hb).symm⟩
theorem bits_back (l : List Bool) : (l.map bitI).map (fun u => decide (u = 1)) = l := by
  rw [List.map_map]
  conv => rhs; rw [← List.map_id l]
  exact List.map_congr_left fun b _ => by cases b <;> rfl
theorem bits_mod (l : List Bool) : ((l.map bitI).map fun x => x % ((2 ^ 1 : Nat) : Int)) = l.map bitI := by
  rw [List.map_map]
  exact List.map_congr_left fun b _ => by cases b <;> rfl
theorem mixed_back (l : List Bool) (more : List Int) (hl : l.length ≤ 65535) : mixedN (packL 1 (l.map bitI) ++ more) l.length = some l := by
  have hlen : (packL 1 (l.map bitI)).length = (l.length + 7) / 8 := by rw [packL_length, List.length_map, Nat.one_mul]
  have hu := unpack_packL (m := 1) (bits_R64 l) (by decide) (by simpa using hl)
  rw [List.length_map, bits_mod] at hu
  unfold mixedN
  rw [if_neg (by rw [List.length_append]; omega), ← hlen, List.take_left]
  have hu' : unpack 1 (packL 1 (l.map bitI)) (l.length : Int) = some (l.map bitI) := hu
  rw [hu']
  simp only [bits_back]
theorem dec_enc (l : List Bool) (more : List Int) (hl : l.length ≤ 65535) : decN (encN l ++ more) = some (l, more) := by
  have h0 : (0 : Int) ≤ l.length := by omega
  have h1 : (l.length : Int) < 18446744073709551616 := by omega
  have key : ∀ t b, encN l = num l.length ++ (t :: b) → tellN t (b ++ more) l.length = some l → decN (encN l ++ more) = some (l, more) := by
    intro t b he ht
    have e : encN l ++ more = num l.length ++ (t :: (b ++ more)) := by rw [he, List.append_assoc]; rfl
    unfold decN
    rw [e, pnum_of_num _ h0 h1]
    dsimp only
    rw [if_neg (by omega), Int.toNat_natCast, ht]
    dsimp only
    rw [← e, if_pos ⟨by rw [List.length_append]; omega, by rw [List.take_left]⟩, List.drop_left]
  by_cases c0 : countL l = 0
  · refine key 0 [] (by rw [encN, if_pos c0]) ?_
    rw [tellN, if_pos rfl, ← countL_zero c0]
  · by_cases c1 : countL l = l.length
    · refine key 1 [] (by rw [encN, if_neg c0, if_pos c1]) ?_
      rw [tellN, if_neg (by decide), if_pos rfl, ← countL_all c1]
    · refine key 2 (packL 1 (l.map bitI)) (by rw [encN, if_neg c0, if_neg c1]; rfl) ?_
      rw [tellN, if_neg (by decide), if_neg (by decide), if_pos rfl, mixed_back l more hl]
theorem encN_R8 (l : List Bool) (hl : l.length ≤ 65535) : R8 (encN l) := by
  unfold encN
  refine (num_r8 (by omega) (by omega)).append ?_
  split
  · intro z hz; simp at hz; omega
  · split
    · intro z hz; simp at hz; omega
    · intro z hz
      rcases List.mem_append.1 hz with h | h
      · simp at h; omega
      · exact packL_R8 _ _ z h
theorem encN_len (l : List Bool) (hl : l.length ≤ 65535) : (encN l).length ≤ 10000 := by
  have h1 := num_len10 (u := (l.length : Int)) (by omega) (by omega)
  unfold encN
  rw [List.length_append]
  split
  · simp; omega
  · split
    · simp; omega
    · rw [List.length_append, packL_length, List.length_map]; simp; omega
end Go.Den
namespace Go.Den
open Go
def updT (n i : Nat) : List Bool := (List.range n).map fun j => decide (j < i)
theorem updT_zero (n : Nat) : updT n 0 = List.replicate n false := by
  simp only [updT, Nat.not_lt_zero, decide_false]
  exact List.map_const' .. |>.trans (by simp)
theorem updT_end (n : Nat) : updT n n = List.replicate n true := by
  refine List.eq_replicate_iff.2 ⟨by simp [updT], fun b hb => ?_⟩
  obtain ⟨j, hj, rfl⟩ := List.mem_map.1 hb
  simpa using hj
theorem updT_length (n i : Nat) : (updT n i).length = n := by simp [updT]
theorem updT_get {n i j : Nat} (h : j < n) : (updT n i)[j]? = some (decide (j < i)) := by simp [updT, h]
theorem updT_set {n i : Nat} (h : i < n) : (updT n i).set i true = updT n (i + 1) := by
  apply List.ext_getElem?
  intro j
  rw [List.getElem?_set]
  by_cases hj : j < n
  · rw [updT_get hj, updT_get hj, updT_length]
    split
    · rename_i h; subst h; simp
    · rename_i hne
      congr 1
      exact decide_eq_decide.2 (by omega)
  · rw [List.getElem?_eq_none (l := updT n (i + 1)) (by rw [updT_length]; omega), List.getElem?_eq_none (l := updT n i) (by rw [updT_length]; omega), if_neg (by omega)]
end Go.Den
