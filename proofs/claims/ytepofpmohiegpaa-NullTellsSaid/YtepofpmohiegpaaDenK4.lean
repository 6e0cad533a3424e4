/- Den: the evaluator and what is shown of it, parts Zn to Zo. -/
import Derived.Test.YtepofpmohiegpaaDenK3
/- Den, part Zn: rules by which the walk decides numbers by itself, and loops that count. -/
namespace Go.Den
open Go
theorem s64 {n : Int} (h : -9223372036854775808 ≤ n ∧ n < 9223372036854775808) : (n + 9223372036854775808) % 18446744073709551616 - 9223372036854775808 = n := by omega
theorem u64 {n : Int} (h : 0 ≤ n ∧ n < 18446744073709551616) : n % 18446744073709551616 = n := by omega
theorem u8m {n : Int} (h : 0 ≤ n ∧ n < 256) : n % 256 = n := by omega
theorem ilt_t {a b : Int} (h : a < b) : (a < b) = True := eq_true h
theorem ilt_f {a b : Int} (h : b ≤ a) : (a < b) = False := eq_false (by omega)
theorem ile_t {a b : Int} (h : a ≤ b) : (a ≤ b) = True := eq_true h
theorem ile_f {a b : Int} (h : b < a) : (a ≤ b) = False := eq_false (by omega)
theorem ieq_t {a b : Int} (h : a ≤ b ∧ b ≤ a) : (a = b) = True := eq_true (by omega)
theorem ieq_f {a b : Int} (h : a < b ∨ b < a) : (a = b) = False := eq_false (by omega)
theorem nlt_t {a b : Nat} (h : a < b) : (a < b) = True := eq_true h
theorem nlt_f {a b : Nat} (h : b ≤ a) : (a < b) = False := eq_false (by omega)
theorem nle_t {a b : Nat} (h : a ≤ b) : (a ≤ b) = True := eq_true h
theorem nle_f {a b : Nat} (h : b < a) : (a ≤ b) = False := eq_false (by omega)
theorem neq_t {a b : Nat} (h : a ≤ b ∧ b ≤ a) : (a = b) = True := eq_true (by omega)
theorem neq_f {a b : Nat} (h : a < b ∨ b < a) : (a = b) = False := eq_false (by omega)
theorem tdv {a b : Int} (h : 0 ≤ a) : a.tdiv b = a / b := Int.tdiv_eq_ediv_of_nonneg h
theorem tmd {a b : Int} (h : 0 ≤ a) : a.tmod b = a % b := Int.tmod_eq_emod_of_nonneg h
theorem fdv {a b : Int} (h : 0 ≤ b) : a.fdiv b = a / b := Int.fdiv_eq_ediv_of_nonneg a h
theorem tn_sub {a b : Nat} (h : b ≤ a) : ((a : Int) - (b : Int)).toNat = a - b := by omega
/-- what is said of a call's end; of a round's end -/
def retP (P : Program) (fn : Func) (n : Nat) (r : PV × List (List PV)) : Out → St → Prop
  | .exit _, _ => False
  | _, S => finish P fn n S = some r
theorem retP_normal {P fn n r S} : retP P fn n r .normal S = (finish P fn n S = some r) := rfl
theorem retP_ret {P fn n r S} : retP P fn n r .ret S = (finish P fn n S = some r) := rfl
theorem retP_exit {P fn n r i S} : retP P fn n r (.exit i) S = False := rfl
def roundP (nl : Nat) (L : List NI) (J : St) (P : Out → St → Prop) : Out → St → Prop
  | .normal, S => norm nl S L = some J
  | o, S => P o S
theorem roundP_normal {nl L J P S} : roundP nl L J P .normal S = (norm nl S L = some J) := rfl
theorem roundP_ret {nl L J P S} : roundP nl L J P .ret S = P .ret S := rfl
theorem roundP_exit {nl L J P i S} : roundP nl L J P (.exit i) S = P (.exit i) S := rfl
def roundQ {α : Type} (nl : Nat) (L : List NI) (I : α → St) (Q : α → Prop) (P : Out → St → Prop) : Out → St → Prop
  | .normal, S => ∃ a, norm nl S L = some (I a) ∧ Q a
  | o, S => P o S
theorem roundQ_normal {α : Type} {nl L P S} {I : α → St} {Q : α → Prop} : roundQ nl L I Q P .normal S = (∃ a, norm nl S L = some (I a) ∧ Q a) := rfl
theorem roundQ_ret {α : Type} {nl L P S} {I : α → St} {Q : α → Prop} : roundQ nl L I Q P .ret S = P .ret S := rfl
theorem roundQ_exit {α : Type} {nl L P i S} {I : α → St} {Q : α → Prop} : roundQ nl L I Q P (.exit i) S = P (.exit i) S := rfl
def outP (P : Out → St → Prop) : Out → St → Prop
  | .normal, _ => False
  | o, S => P o S
theorem outP_normal {P S} : outP P .normal S = False := rfl
theorem outP_ret {P S} : outP P .ret S = P .ret S := rfl
theorem outP_exit {P i S} : outP P (.exit i) S = P (.exit i) S := rfl
attribute [go_sem] retP_normal retP_ret retP_exit roundP_normal roundP_ret roundP_exit roundQ_normal roundQ_ret roundQ_exit outP_normal outP_ret outP_exit
/-- A call is told. -/
theorem dw_in {E : Env} {f : FuncId} {fn : Func} {c : Code} {args : List PV} {lent : List (List PV)} {r} (hf : E.fns f = some fn) (hc : fn.body = some c) (hl : lent.length ≤ 64)
    (h : Runs E f lent.length c (entry args lent) (retP E.P fn lent.length r)) : dw E f args lent = some r :=
  dw_intro hf hc hl (h.mono fun o S hs => by cases o <;> exact hs)
/-- A loop, by what its rounds begin with. -/
theorem runs_any {E f nl b S P} {α : Type} (I : α → St) (μ : α → Nat) (a0 : α) (Q : α → Prop) (hQ : Q a0) (h0 : norm nl S (E.lv f (firstRid b)) = some (I a0))
    (step : ∀ a, Q a → Runs E f nl b (I a) (roundQ nl (E.lv f (firstRid b)) I (fun a' => Q a' ∧ μ a' < μ a) P)) : Runs E f nl (.loop b) S P :=
  runs_loop I μ a0 h0 Q hQ fun a ha => (step a ha).mono fun o S2 hs => by
    cases o with
    | normal => obtain ⟨a', hn, hq, hm⟩ := hs; exact ⟨a', hq, hm, hn⟩
    | _ => exact hs
/-- A loop that counts. -/
theorem runs_for {E f nl b S P} (I : Nat → St) (n : Nat) (h0 : norm nl S (E.lv f (firstRid b)) = some (I 0))
    (step : ∀ i, i < n → Runs E f nl b (I i) (roundP nl (E.lv f (firstRid b)) (I (i + 1)) P))
    (fin : Runs E f nl b (I n) (outP P)) : Runs E f nl (.loop b) S P := by
  refine runs_loop I (fun i => n - i) 0 h0 (fun i => i ≤ n) (Nat.zero_le _) fun i hi => ?_
  by_cases h : i < n
  · refine (step i h).mono fun o S2 hs => ?_
    cases o with
    | normal => exact ⟨i + 1, h, by show n - (i + 1) < n - i; omega, hs⟩
    | _ => exact hs
  · obtain rfl : i = n := by omega
    refine fin.mono fun o S2 hs => ?_
    cases o with
    | normal => exact hs.elim
    | _ => exact hs
/-- A loop that counts, where what is built up may be anything of its kind. -/
theorem runs_forQ {E f nl b S P} {α : Type} (I : Nat → α → St) (Q : Nat → α → Prop) (n : Nat) (a0 : α) (hq : Q 0 a0) (h0 : norm nl S (E.lv f (firstRid b)) = some (I 0 a0))
    (step : ∀ i a, i < n → Q i a → Runs E f nl b (I i a) (roundQ nl (E.lv f (firstRid b)) (I (i + 1)) (Q (i + 1)) P))
    (fin : ∀ a, Q n a → Runs E f nl b (I n a) (outP P)) : Runs E f nl (.loop b) S P := by
  refine runs_loop (fun p : Nat × α => I p.1 p.2) (fun p => n - p.1) (0, a0) h0 (fun p => p.1 ≤ n ∧ Q p.1 p.2) ⟨Nat.zero_le _, hq⟩ fun p hp => ?_
  obtain ⟨i, a⟩ := p
  obtain ⟨hi, hqa⟩ := hp
  dsimp only at hi hqa
  by_cases h : i < n
  · refine (step i a h hqa).mono fun o S2 hs => ?_
    cases o with
    | normal =>
      obtain ⟨a', hn, hq'⟩ := hs
      exact ⟨(i + 1, a'), ⟨h, hq'⟩, by show n - (i + 1) < n - i; omega, hn⟩
    | _ => exact hs
  · obtain rfl : i = n := by omega
    refine (fin a hqa).mono fun o S2 hs => ?_
    cases o with
    | normal => exact hs.elim
    | _ => exact hs
theorem take_get {α : Type} {l : List α} {i : Nat} (h : i < l.length) : ∃ x, l[i]? = some x ∧ x ∈ l ∧ l.take (i + 1) = l.take i ++ [x] := by
  refine ⟨l[i], List.getElem?_eq_getElem h, List.getElem_mem h, ?_⟩
  rw [List.take_add_one, List.getElem?_eq_getElem h]; rfl
theorem take_all {α : Type} (l : List α) : l.take l.length = l := List.take_length
end Go.Den

/- Den, part Zo: the document's way to read bools off bytes is the same. No program in sight. -/
namespace Go.Den
open Go
def bitsR (t : Int) (b : List Int) (n : Nat) : List Bool := (List.range n).map fun i => decide (t = 1) || (decide (t = 2) && decide (bitAt b i = 1))
theorem bitsR_length (t : Int) (b : List Int) (n : Nat) : (bitsR t b n).length = n := by simp [bitsR]
theorem bitsR_succ (t : Int) (b : List Int) (n : Nat) : bitsR t b (n + 1) = bitsR t b n ++ [decide (t = 1) || (decide (t = 2) && decide (bitAt b n = 1))] := by simp [bitsR, List.range_succ]
theorem bitAt_take {b : List Int} {k p : Nat} (h : p / 8 < k) : bitAt (b.take k) p = bitAt b p := by
  unfold bitAt
  rw [List.getD_eq_getElem?_getD, List.getD_eq_getElem?_getD, List.getElem?_take, if_pos h]
theorem rd_one (b : List Int) (p : Nat) : rd b p 1 = bitAt b p := by
  rw [rd_succ, rd_zero]; simp
theorem bitsR_two {b : List Int} {n : Nat} : bitsR 2 b n = (unpL 1 (b.take ((n + 7) / 8)) n).map fun u => decide (u = 1) := by
  unfold bitsR unpL
  rw [List.map_map]
  refine List.map_congr_left fun i hi => ?_
  have hi := List.mem_range.1 hi
  simp only [Function.comp, Nat.one_mul, rd_one]
  rw [bitAt_take (by omega)]
  have := bitAt_le b i
  rcases (show bitAt b i = 0 ∨ bitAt b i = 1 by omega) with h | h <;> rw [h] <;> decide
theorem bitsR_bits {b : List Int} {n : Nat} : (bitsR 2 b n).map bitI = unpL 1 (b.take ((n + 7) / 8)) n := by
  rw [bitsR_two, List.map_map]
  conv => rhs; rw [← List.map_id (unpL 1 (b.take ((n + 7) / 8)) n)]
  refine List.map_congr_left fun u hu => ?_
  obtain ⟨i, hi, rfl⟩ := List.mem_map.1 (show u ∈ (List.range n).map _ from hu)
  simp only [Function.comp, Nat.one_mul, rd_one, id]
  have := bitAt_le (b.take ((n + 7) / 8)) i
  rcases (show bitAt (b.take ((n + 7) / 8)) i = 0 ∨ bitAt (b.take ((n + 7) / 8)) i = 1 by omega) with h | h <;> rw [h] <;> decide
/-- bytes that begin with a number and with 2 begin with bools of that many only so -/
theorem enc_two {l : List Bool} {b zs : List Int} (hz : zs = num l.length ++ (2 :: b)) (hE : encN l = zs.take (encN l).length) :
    encN l = num l.length ++ (2 :: packL 1 (l.map bitI)) ∧ packL 1 (l.map bitI) = b.take ((l.length + 7) / 8) := by
  have key : ∀ c X, encN l = num l.length ++ (c :: X) → c = 2 ∧ X = b.take X.length := by
    intro c X he
    rw [he, hz, List.length_append, List.take_length_add_append, List.length_cons, List.take_succ_cons] at hE
    have := List.append_cancel_left hE
    injection this with h1 h2
    exact ⟨h1, h2⟩
  unfold encN at key ⊢
  by_cases c0 : countL l = 0
  · rw [if_pos c0] at key
    exact absurd (key 0 [] rfl).1 (by decide)
  · rw [if_neg c0] at key ⊢
    by_cases c1 : countL l = l.length
    · rw [if_pos c1] at key
      exact absurd (key 1 [] rfl).1 (by decide)
    · rw [if_neg c1] at key ⊢
      refine ⟨rfl, ?_⟩
      have := (key 2 (packL 1 (l.map bitI)) rfl).2
      rwa [packL_length, List.length_map, Nat.one_mul] at this
theorem dec_ref {zs b : List Int} {n : Nat} {t : Int} (h8 : R8 zs) (hp : pnum 0 0 zs = some ((n : Int), t :: b)) (hn : n ≤ 65535) (ht0 : 0 ≤ t) (ht : t ≤ 2) (hs : t = 2 → (n + 7) / 8 ≤ b.length) :
    decN zs = if (encN (bitsR t b n)).length ≤ zs.length ∧ encN (bitsR t b n) = zs.take (encN (bitsR t b n)).length then some (bitsR t b n, zs.drop (encN (bitsR t b n)).length) else none := by
  unfold decN
  rw [hp]
  dsimp only
  rw [if_neg (by omega), Int.toNat_natCast]
  rcases (show t = 0 ∨ t = 1 ∨ t = 2 by omega) with rfl | rfl | rfl
  · have : bitsR 0 b n = List.replicate n false := by
      refine List.eq_replicate_iff.2 ⟨bitsR_length .., fun x hx => ?_⟩
      obtain ⟨i, _, rfl⟩ := List.mem_map.1 hx
      rfl
    rw [this, tellN, if_pos rfl]
  · have : bitsR 1 b n = List.replicate n true := by
      refine List.eq_replicate_iff.2 ⟨bitsR_length .., fun x hx => ?_⟩
      obtain ⟨i, _, rfl⟩ := List.mem_map.1 hx
      rfl
    rw [this, tellN, if_neg (by decide), if_pos rfl]
  · have hs := hs rfl
    rw [tellN, if_neg (by decide), if_neg (by decide), if_pos rfl, mixedN, if_neg (by omega)]
    have hz := pnum_num_eq h8 hp
    have hlen : (b.take ((n + 7) / 8)).length = (n + 7) / 8 := by rw [List.length_take]; omega
    have h1 : heldN (1 : Int) = 1 := heldN_nat (m := 1) (by decide)
    have hu : unpack 1 (b.take ((n + 7) / 8)) n = if packL 1 (unpL 1 (b.take ((n + 7) / 8)) n) = b.take ((n + 7) / 8) then some (unpL 1 (b.take ((n + 7) / 8)) n) else none := by
      unfold unpack
      rw [h1, if_neg (by rw [hlen, Int.toNat_natCast, Nat.one_mul]; omega), Int.toNat_natCast]
    rw [hu]
    by_cases hpk : packL 1 (unpL 1 (b.take ((n + 7) / 8)) n) = b.take ((n + 7) / 8)
    · rw [if_pos hpk]
      dsimp only
      rw [← bitsR_two]
    · rw [if_neg hpk]
      dsimp only
      rw [if_neg]
      rintro ⟨_, hE⟩
      have hz' : zs = num ((bitsR 2 b n).length : Nat) ++ (2 :: b) := by rw [bitsR_length]; exact hz
      have := (enc_two hz' hE).2
      rw [bitsR_bits, bitsR_length] at this
      exact hpk this
/-- the byte behind the number -/
theorem enc_mark {zs b : List Int} {n : Nat} (h8 : R8 zs) (hp : pnum 0 0 zs = some ((n : Int), 2 :: b)) (hE : encN (bitsR 2 b n) = zs.take (encN (bitsR 2 b n)).length) (hs : (n + 7) / 8 ≤ b.length) :
    ∃ a : Nat, (encN (bitsR 2 b n)).length = a + 1 + (n + 7) / 8 ∧ (encN (bitsR 2 b n))[a]? = some 2 := by
  have hz := pnum_num_eq h8 hp
  have hz' : zs = num ((bitsR 2 b n).length : Nat) ++ (2 :: b) := by rw [bitsR_length]; exact hz
  obtain ⟨h1, h2⟩ := enc_two hz' hE
  refine ⟨(num ((bitsR 2 b n).length : Nat)).length, ?_, ?_⟩
  · rw [h1, List.length_append, List.length_cons, h2, List.length_take, bitsR_length]; omega
  · rw [h1, List.getElem?_append_right (Nat.le_refl _), Nat.sub_self]; rfl
end Go.Den
