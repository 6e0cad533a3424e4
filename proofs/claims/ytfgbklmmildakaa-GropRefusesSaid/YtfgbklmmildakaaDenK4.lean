/- Den: the evaluator and what is shown of it, parts Zn to Zs. -/
import Derived.Test.YtfgbklmmildakaaDenK3
set_option linter.unusedSimpArgs false
set_option linter.unusedVariables false
/- Den, part Zn: rules by which the walk decides numbers by itself, and loops that count. -/
namespace Go.Den
open Go
theorem s64 {n : Int} (h : -9223372036854775808 ≤ n ∧ n < 9223372036854775808) : (n + 9223372036854775808) % 18446744073709551616 - 9223372036854775808 = n := by omega
theorem u64 {n : Int} (h : 0 ≤ n ∧ n < 18446744073709551616) : n % 18446744073709551616 = n := by omega
theorem u8m {n : Int} (h : 0 ≤ n ∧ n < 256) : n % 256 = n := by omega
theorem ilt_t {a b : Int} (h : a < b) : (a < b) = True := eq_true h
theorem ilt_f {a b : Int} (h : b ≤ a) : (a < b) = False := eq_false (by omega)
theorem ile_t {a b : Int} (h : a ≤ b) : (a ≤ b) = True := eq_true h
theorem ile_f {a b : Int} (h : b < a) : (a ≤ b) = False := eq_false (by omega)
theorem ieq_t {a b : Int} (h : a ≤ b ∧ b ≤ a) : (a = b) = True := eq_true (by omega)
theorem ieq_f {a b : Int} (h : a < b ∨ b < a) : (a = b) = False := eq_false (by omega)
theorem nlt_t {a b : Nat} (h : a < b) : (a < b) = True := eq_true h
theorem nlt_f {a b : Nat} (h : b ≤ a) : (a < b) = False := eq_false (by omega)
theorem nle_t {a b : Nat} (h : a ≤ b) : (a ≤ b) = True := eq_true h
theorem nle_f {a b : Nat} (h : b < a) : (a ≤ b) = False := eq_false (by omega)
theorem neq_t {a b : Nat} (h : a ≤ b ∧ b ≤ a) : (a = b) = True := eq_true (by omega)
theorem neq_f {a b : Nat} (h : a < b ∨ b < a) : (a = b) = False := eq_false (by omega)
theorem tdv {a b : Int} (h : 0 ≤ a) : a.tdiv b = a / b := Int.tdiv_eq_ediv_of_nonneg h
theorem tmd {a b : Int} (h : 0 ≤ a) : a.tmod b = a % b := Int.tmod_eq_emod_of_nonneg h
theorem fdv {a b : Int} (h : 0 ≤ b) : a.fdiv b = a / b := Int.fdiv_eq_ediv_of_nonneg a h
theorem tn_sub {a b : Nat} (h : b ≤ a) : ((a : Int) - (b : Int)).toNat = a - b := by omega
/-- what is said of a call's end; of a round's end -/
def retP (P : Program) (fn : Func) (n : Nat) (r : PV × List (List PV)) : Out → St → Prop
  | .exit _, _ => False
  | _, S => finish P fn n S = some r
theorem retP_normal {P fn n r S} : retP P fn n r .normal S = (finish P fn n S = some r) := rfl
theorem retP_ret {P fn n r S} : retP P fn n r .ret S = (finish P fn n S = some r) := rfl
theorem retP_exit {P fn n r i S} : retP P fn n r (.exit i) S = False := rfl
def roundP (nl : Nat) (L : List NI) (J : St) (P : Out → St → Prop) : Out → St → Prop
  | .normal, S => norm nl S L = some J
  | o, S => P o S
theorem roundP_normal {nl L J P S} : roundP nl L J P .normal S = (norm nl S L = some J) := rfl
theorem roundP_ret {nl L J P S} : roundP nl L J P .ret S = P .ret S := rfl
theorem roundP_exit {nl L J P i S} : roundP nl L J P (.exit i) S = P (.exit i) S := rfl
def roundQ {α : Type} (nl : Nat) (L : List NI) (I : α → St) (Q : α → Prop) (P : Out → St → Prop) : Out → St → Prop
  | .normal, S => ∃ a, norm nl S L = some (I a) ∧ Q a
  | o, S => P o S
theorem roundQ_normal {α : Type} {nl L P S} {I : α → St} {Q : α → Prop} : roundQ nl L I Q P .normal S = (∃ a, norm nl S L = some (I a) ∧ Q a) := rfl
theorem roundQ_ret {α : Type} {nl L P S} {I : α → St} {Q : α → Prop} : roundQ nl L I Q P .ret S = P .ret S := rfl
theorem roundQ_exit {α : Type} {nl L P i S} {I : α → St} {Q : α → Prop} : roundQ nl L I Q P (.exit i) S = P (.exit i) S := rfl
def outP (P : Out → St → Prop) : Out → St → Prop
  | .normal, _ => False
  | o, S => P o S
theorem outP_normal {P S} : outP P .normal S = False := rfl
theorem outP_ret {P S} : outP P .ret S = P .ret S := rfl
theorem outP_exit {P i S} : outP P (.exit i) S = P (.exit i) S := rfl
attribute [go_sem] retP_normal retP_ret retP_exit roundP_normal roundP_ret roundP_exit roundQ_normal roundQ_ret roundQ_exit outP_normal outP_ret outP_exit
/-- A call is told. -/
theorem dw_in {E : Env} {f : FuncId} {fn : Func} {c : Code} {args : List PV} {lent : List (List PV)} {r} (hf : E.fns f = some fn) (hc : fn.body = some c) (hl : lent.length ≤ 64)
    (h : Runs E f lent.length c (entry args lent) (retP E.P fn lent.length r)) : dw E f args lent = some r :=
  dw_intro hf hc hl (h.mono fun o S hs => by cases o <;> exact hs)
/-- A loop, by what its rounds begin with. -/
theorem runs_any {E f nl b S P} {α : Type} (I : α → St) (μ : α → Nat) (a0 : α) (Q : α → Prop) (hQ : Q a0) (h0 : norm nl S (E.lv f (firstRid b)) = some (I a0))
    (step : ∀ a, Q a → Runs E f nl b (I a) (roundQ nl (E.lv f (firstRid b)) I (fun a' => Q a' ∧ μ a' < μ a) P)) : Runs E f nl (.loop b) S P :=
  runs_loop I μ a0 h0 Q hQ fun a ha => (step a ha).mono fun o S2 hs => by
    cases o with
    | normal => obtain ⟨a', hn, hq, hm⟩ := hs; exact ⟨a', hq, hm, hn⟩
    | _ => exact hs
/-- A loop that counts. -/
theorem runs_for {E f nl b S P} (I : Nat → St) (n : Nat) (h0 : norm nl S (E.lv f (firstRid b)) = some (I 0))
    (step : ∀ i, i < n → Runs E f nl b (I i) (roundP nl (E.lv f (firstRid b)) (I (i + 1)) P))
    (fin : Runs E f nl b (I n) (outP P)) : Runs E f nl (.loop b) S P := by
  refine runs_loop I (fun i => n - i) 0 h0 (fun i => i ≤ n) (Nat.zero_le _) fun i hi => ?_
  by_cases h : i < n
  · refine (step i h).mono fun o S2 hs => ?_
    cases o with
    | normal => exact ⟨i + 1, h, by show n - (i + 1) < n - i; omega, hs⟩
    | _ => exact hs
  · obtain rfl : i = n := by omega
    refine fin.mono fun o S2 hs => ?_
    cases o with
    | normal => exact hs.elim
    | _ => exact hs
/-- A loop that counts, where what is built up may be anything of its kind. -/
theorem runs_forQ {E f nl b S P} {α : Type} (I : Nat → α → St) (Q : Nat → α → Prop) (n : Nat) (a0 : α) (hq : Q 0 a0) (h0 : norm nl S (E.lv f (firstRid b)) = some (I 0 a0))
    (step : ∀ i a, i < n → Q i a → Runs E f nl b (I i a) (roundQ nl (E.lv f (firstRid b)) (I (i + 1)) (Q (i + 1)) P))
    (fin : ∀ a, Q n a → Runs E f nl b (I n a) (outP P)) : Runs E f nl (.loop b) S P := by
  refine runs_loop (fun p : Nat × α => I p.1 p.2) (fun p => n - p.1) (0, a0) h0 (fun p => p.1 ≤ n ∧ Q p.1 p.2) ⟨Nat.zero_le _, hq⟩ fun p hp => ?_
  obtain ⟨i, a⟩ := p
  obtain ⟨hi, hqa⟩ := hp
  dsimp only at hi hqa
  by_cases h : i < n
  · refine (step i a h hqa).mono fun o S2 hs => ?_
    cases o with
    | normal =>
      obtain ⟨a', hn, hq'⟩ := hs
      exact ⟨(i + 1, a'), ⟨h, hq'⟩, by show n - (i + 1) < n - i; omega, hn⟩
    | _ => exact hs
  · obtain rfl : i = n := by omega
    refine (fin a hqa).mono fun o S2 hs => ?_
    cases o with
    | normal => exact hs.elim
    | _ => exact hs
theorem take_get {α : Type} {l : List α} {i : Nat} (h : i < l.length) : ∃ x, l[i]? = some x ∧ x ∈ l ∧ l.take (i + 1) = l.take i ++ [x] := by
  refine ⟨l[i], List.getElem?_eq_getElem h, List.getElem_mem h, ?_⟩
  rw [List.take_add_one, List.getElem?_eq_getElem h]; rfl
theorem take_all {α : Type} (l : List α) : l.take l.length = l := List.take_length
end Go.Den

/- Den, part Zo: the document's way to read bools off bytes is the same. No program in sight. -/
namespace Go.Den
open Go
def bitsR (t : Int) (b : List Int) (n : Nat) : List Bool := (List.range n).map fun i => decide (t = 1) || (decide (t = 2) && decide (bitAt b i = 1))
theorem bitsR_length (t : Int) (b : List Int) (n : Nat) : (bitsR t b n).length = n := by simp [bitsR]
theorem bitsR_succ (t : Int) (b : List Int) (n : Nat) : bitsR t b (n + 1) = bitsR t b n ++ [decide (t = 1) || (decide (t = 2) && decide (bitAt b n = 1))] := by simp [bitsR, List.range_succ]
theorem bitAt_take {b : List Int} {k p : Nat} (h : p / 8 < k) : bitAt (b.take k) p = bitAt b p := by
  unfold bitAt
  rw [List.getD_eq_getElem?_getD, List.getD_eq_getElem?_getD, List.getElem?_take, if_pos h]
theorem rd_one (b : List Int) (p : Nat) : rd b p 1 = bitAt b p := by
  rw [rd_succ, rd_zero]; simp
theorem bitsR_two {b : List Int} {n : Nat} : bitsR 2 b n = (unpL 1 (b.take ((n + 7) / 8)) n).map fun u => decide (u = 1) := by
  unfold bitsR unpL
  rw [List.map_map]
  refine List.map_congr_left fun i hi => ?_
  have hi := List.mem_range.1 hi
  simp only [Function.comp, Nat.one_mul, rd_one]
  rw [bitAt_take (by omega)]
  have := bitAt_le b i
  rcases (show bitAt b i = 0 ∨ bitAt b i = 1 by omega) with h | h <;> rw [h] <;> decide
theorem bitsR_bits {b : List Int} {n : Nat} : (bitsR 2 b n).map bitI = unpL 1 (b.take ((n + 7) / 8)) n := by
  rw [bitsR_two, List.map_map]
  conv => rhs; rw [← List.map_id (unpL 1 (b.take ((n + 7) / 8)) n)]
  refine List.map_congr_left fun u hu => ?_
  obtain ⟨i, hi, rfl⟩ := List.mem_map.1 (show u ∈ (List.range n).map _ from hu)
  simp only [Function.comp, Nat.one_mul, rd_one, id]
  have := bitAt_le (b.take ((n + 7) / 8)) i
  rcases (show bitAt (b.take ((n + 7) / 8)) i = 0 ∨ bitAt (b.take ((n + 7) / 8)) i = 1 by omega) with h | h <;> rw [h] <;> decide
/-- bytes that begin with a number and with 2 begin with bools of that many only so -/
theorem enc_two {l : List Bool} {b zs : List Int} (hz : zs = num l.length ++ (2 :: b)) (hE : encN l = zs.take (encN l).length) :
    encN l = num l.length ++ (2 :: packL 1 (l.map bitI)) ∧ packL 1 (l.map bitI) = b.take ((l.length + 7) / 8) := by
  have key : ∀ c X, encN l = num l.length ++ (c :: X) → c = 2 ∧ X = b.take X.length := by
    intro c X he
    rw [he, hz, List.length_append, List.take_length_add_append, List.length_cons, List.take_succ_cons] at hE
    have := List.append_cancel_left hE
    injection this with h1 h2
    exact ⟨h1, h2⟩
  unfold encN at key ⊢
  by_cases c0 : countL l = 0
  · rw [if_pos c0] at key
    exact absurd (key 0 [] rfl).1 (by decide)
  · rw [if_neg c0] at key ⊢
    by_cases c1 : countL l = l.length
    · rw [if_pos c1] at key
      exact absurd (key 1 [] rfl).1 (by decide)
    · rw [if_neg c1] at key ⊢
      refine ⟨rfl, ?_⟩
      have := (key 2 (packL 1 (l.map bitI)) rfl).2
      rwa [packL_length, List.length_map, Nat.one_mul] at this
theorem dec_ref {zs b : List Int} {n : Nat} {t : Int} (h8 : R8 zs) (hp : pnum 0 0 zs = some ((n : Int), t :: b)) (hn : n ≤ 65535) (ht0 : 0 ≤ t) (ht : t ≤ 2) (hs : t = 2 → (n + 7) / 8 ≤ b.length) :
    decN zs = if (encN (bitsR t b n)).length ≤ zs.length ∧ encN (bitsR t b n) = zs.take (encN (bitsR t b n)).length then some (bitsR t b n, zs.drop (encN (bitsR t b n)).length) else none := by
  unfold decN
  rw [hp]
  dsimp only
  rw [if_neg (by omega), Int.toNat_natCast]
  rcases (show t = 0 ∨ t = 1 ∨ t = 2 by omega) with rfl | rfl | rfl
  · have : bitsR 0 b n = List.replicate n false := by
      refine List.eq_replicate_iff.2 ⟨bitsR_length .., fun x hx => ?_⟩
      obtain ⟨i, _, rfl⟩ := List.mem_map.1 hx
      rfl
    rw [this, tellN, if_pos rfl]
  · have : bitsR 1 b n = List.replicate n true := by
      refine List.eq_replicate_iff.2 ⟨bitsR_length .., fun x hx => ?_⟩
      obtain ⟨i, _, rfl⟩ := List.mem_map.1 hx
      rfl
    rw [this, tellN, if_neg (by decide), if_pos rfl]
  · have hs := hs rfl
    rw [tellN, if_neg (by decide), if_neg (by decide), if_pos rfl, mixedN, if_neg (by omega)]
    have hz := pnum_num_eq h8 hp
    have hlen : (b.take ((n + 7) / 8)).length = (n + 7) / 8 := by rw [List.length_take]; omega
    have h1 : heldN (1 : Int) = 1 := heldN_nat (m := 1) (by decide)
    have hu : unpack 1 (b.take ((n + 7) / 8)) n = if packL 1 (unpL 1 (b.take ((n + 7) / 8)) n) = b.take ((n + 7) / 8) then some (unpL 1 (b.take ((n + 7) / 8)) n) else none := by
      unfold unpack
      rw [h1, if_neg (by rw [hlen, Int.toNat_natCast, Nat.one_mul]; omega), Int.toNat_natCast]
    rw [hu]
    by_cases hpk : packL 1 (unpL 1 (b.take ((n + 7) / 8)) n) = b.take ((n + 7) / 8)
    · rw [if_pos hpk]
      dsimp only
      rw [← bitsR_two]
    · rw [if_neg hpk]
      dsimp only
      rw [if_neg]
      rintro ⟨_, hE⟩
      have hz' : zs = num ((bitsR 2 b n).length : Nat) ++ (2 :: b) := by rw [bitsR_length]; exact hz
      have := (enc_two hz' hE).2
      rw [bitsR_bits, bitsR_length] at this
      exact hpk this
/-- the byte behind the number -/
theorem enc_mark {zs b : List Int} {n : Nat} (h8 : R8 zs) (hp : pnum 0 0 zs = some ((n : Int), 2 :: b)) (hE : encN (bitsR 2 b n) = zs.take (encN (bitsR 2 b n)).length) (hs : (n + 7) / 8 ≤ b.length) :
    ∃ a : Nat, (encN (bitsR 2 b n)).length = a + 1 + (n + 7) / 8 ∧ (encN (bitsR 2 b n))[a]? = some 2 := by
  have hz := pnum_num_eq h8 hp
  have hz' : zs = num ((bitsR 2 b n).length : Nat) ++ (2 :: b) := by rw [bitsR_length]; exact hz
  obtain ⟨h1, h2⟩ := enc_two hz' hE
  refine ⟨(num ((bitsR 2 b n).length : Nat)).length, ?_, ?_⟩
  · rw [h1, List.length_append, List.length_cons, h2, List.length_take, bitsR_length]; omega
  · rw [h1, List.getElem?_append_right (Nat.le_refl _), Nat.sub_self]; rfl
end Go.Den

/- Den, part Zp: predicates, and what they are of a row. No program in sight. -/
namespace Go.Den
open Go
inductive Prd where
  | mk (kind col op : Int) (val : Val) (nil : Bool) (list : List Prd)
def Prd.kind : Prd → Int | .mk k _ _ _ _ _ => k
def Prd.col : Prd → Int | .mk _ c _ _ _ _ => c
def Prd.op : Prd → Int | .mk _ _ o _ _ _ => o
def Prd.val : Prd → Val | .mk _ _ _ v _ _ => v
def Prd.nil : Prd → Bool | .mk _ _ _ _ n _ => n
def Prd.list : Prd → List Prd | .mk _ _ _ _ _ l => l
theorem Prd.ind {C : Prd → Prop} (h : ∀ k c o v n l, (∀ q ∈ l, C q) → C (.mk k c o v n l)) (p : Prd) : C p :=
  Prd.rec (motive_1 := C) (motive_2 := fun l => ∀ q ∈ l, C q) (fun k c o v n l ih => h k c o v n l ih) (fun q hq => by cases hq)
    (fun a l ha hl q hq => by
      rcases List.mem_cons.1 hq with rfl | hq
      · exact ha
      · exact hl q hq) p
/-- the leaf of a list -/
def lfl (n : Bool) (xs : List (List PV)) : PV := if n && xs.isEmpty then .nils else .sl 8 xs
mutual
def Prd.pv : Prd → List PV
  | .mk k c o v n l => [.int .i64 k, .int .i64 c, .int .i64 o, .bool v.null, .int .i64 v.kind, .int .i64 v.int, bl v.bytes, lfl n (Prd.pvs l)]
def Prd.pvs : List Prd → List (List PV)
  | [] => []
  | p :: r => p.pv :: Prd.pvs r
end
theorem pvs_map (l : List Prd) : Prd.pvs l = l.map Prd.pv := by
  induction l with
  | nil => rfl
  | cons p r ih => rw [Prd.pvs, ih, List.map_cons]
def pl (n : Bool) (l : List Prd) : PV := lfl n (l.map Prd.pv)
theorem pv_mk (k c o : Int) (v : Val) (n : Bool) (l : List Prd) : (Prd.mk k c o v n l).pv = [.int .i64 k, .int .i64 c, .int .i64 o, .bool v.null, .int .i64 v.kind, .int .i64 v.int, bl v.bytes, pl n l] := by
  rw [Prd.pv, pvs_map]; rfl
theorem pv_eq (p : Prd) : p.pv = [.int .i64 p.kind, .int .i64 p.col, .int .i64 p.op, .bool p.val.null, .int .i64 p.val.kind, .int .i64 p.val.int, bl p.val.bytes, pl p.nil p.list] := by
  cases p; rw [pv_mk]; rfl
theorem pl_cases (n : Bool) (l : List Prd) : (pl n l = .nils ∧ l = []) ∨ pl n l = .sl 8 (l.map Prd.pv) := by
  unfold pl lfl
  cases l with
  | nil => cases n <;> simp
  | cons a r => right; simp
theorem pl_some (n : Bool) (a : Prd) (r : List Prd) : pl n (a :: r) = .sl 8 ((a :: r).map Prd.pv) := by unfold pl lfl; simp
theorem pl_false (l : List Prd) : pl false l = .sl 8 (l.map Prd.pv) := rfl
theorem pl_nil : pl true [] = .nils := rfl
section
variable (n : Bool) (l : List Prd)
theorem plainLeaf_pl : plainLeaf (pl n l) = true := by rcases pl_cases n l with ⟨h, _⟩ | h <;> rw [h] <;> rfl
theorem okLeaf_pl : okLeaf (pl n l) = true := by rcases pl_cases n l with ⟨h, _⟩ | h <;> rw [h] <;> rfl
theorem leavesO_pl : leavesO (pl n l) = some [pl n l] := by rcases pl_cases n l with ⟨h, _⟩ | h <;> rw [h] <;> rfl
theorem sealLeaf_pl : sealLeaf (pl n l) = .ret (pl n l, []) := by rcases pl_cases n l with ⟨h, _⟩ | h <;> rw [h] <;> rfl
theorem sealV_pl : sealV (pl n l) = .ret (pl n l, []) := by rcases pl_cases n l with ⟨h, _⟩ | h <;> rw [h] <;> rfl
theorem expLeaf_pl (S : St) (u : List Nat) : expLeaf S u (pl n l) = some (pl n l, u) := by rcases pl_cases n l with ⟨h, _⟩ | h <;> rw [h] <;> rfl
theorem expV_pl (S : St) (u : List Nat) : expV S u (pl n l) = some (pl n l, u) := by rcases pl_cases n l with ⟨h, _⟩ | h <;> rw [h] <;> rfl
theorem normLeaf_pl (S : St) (dup : Nat → Bool) (t j : Nat) : normLeaf S dup t j none (pl n l) = some (pl n l, [], [], []) := by rcases pl_cases n l with ⟨h, _⟩ | h <;> rw [h] <;> rfl
theorem normV_pl (S : St) (dup : Nat → Bool) (x : NI) : normV S dup x (pl n l) = normOne x (normLeaf S dup x.t 0 (get x.rows 0) (pl n l)) := by rcases pl_cases n l with ⟨h, _⟩ | h <;> rw [h] <;> rfl
theorem heldV_pl (S : St) : heldV S (pl n l) = [] := by rcases pl_cases n l with ⟨h, _⟩ | h <;> rw [h] <;> rfl
theorem heldP_pl (S : St) (r : List PV) : heldP S (pl n l :: r) = heldP S r := by rcases pl_cases n l with ⟨h, _⟩ | h <;> rw [h] <;> rfl
theorem lendA_pl (r : List PV) (bs : List (Nat × List PV)) : lendA (pl n l :: r) bs = (lendA r bs).bind fun y => .ret (pl n l :: y.1, y.2.1, y.2.2) := by rcases pl_cases n l with ⟨h, _⟩ | h <;> rw [h] <;> rfl
theorem impLeaf_pl (fid j : Nat) : impLeaf fid j (pl n l) = (pl n l, [], j) := by rcases pl_cases n l with ⟨h, _⟩ | h <;> rw [h] <;> rfl
theorem impV_pl (fid j : Nat) : impV fid j (pl n l) = (pl n l, [], j) := by rcases pl_cases n l with ⟨h, _⟩ | h <;> rw [h] <;> rfl
theorem impR_pl (fid j : Nat) : impR fid j (pl n l) = (pl n l, [], j) := by rcases pl_cases n l with ⟨h, _⟩ | h <;> rw [h] <;> rfl
theorem lenS_pl (P : Program) (t : Option TypeId) : lenS P t (pl n l) = lenS' P t (pl n l) := rfl
theorem lenOf_pl : lenOf (pl n l) = .ret l.length := by rcases pl_cases n l with ⟨h, h2⟩ | h <;> rw [h] <;> simp_all [lenOf]
theorem elemsOf_pl : elemsOf 8 (pl n l) = .ret (l.map Prd.pv) := by rcases pl_cases n l with ⟨h, h2⟩ | h <;> rw [h] <;> simp_all [elemsOf]
end
attribute [go_sem] lenS_pl plainLeaf_pl okLeaf_pl leavesO_pl sealLeaf_pl sealV_pl expLeaf_pl expV_pl normLeaf_pl normV_pl heldV_pl heldP_pl lendA_pl impLeaf_pl impV_pl impR_pl lenOf_pl elemsOf_pl
theorem sealL_pv (p : Prd) : sealL p.pv = .ret (p.pv, []) := by
  rw [pv_eq]
  simp only [go_sem]
theorem sealLL_pv (l : List Prd) : sealLL (l.map Prd.pv) = .ret (l.map Prd.pv, []) := by
  induction l with
  | nil => rfl
  | cons p r ih => rw [List.map_cons, sealLL, sealL_pv, RM.bind, ih]; rfl
attribute [go_sem] sealLL_pv
theorem prd_eta (p : Prd) : Prd.mk p.kind p.col p.op ⟨p.val.null, p.val.kind, p.val.int, p.val.bytes⟩ p.nil p.list = p := by cases p; rfl
attribute [go_sem] prd_eta
theorem pl_get {n : Bool} {l : List Prd} {i : Nat} (h : i < l.length) : pl n l = .sl 8 (l.map Prd.pv) := by
  rcases pl_cases n l with ⟨_, h2⟩ | h
  · subst h2; cases h
  · exact h
theorem pv_ne {p : Prd} {l : List Prd} (h : l = []) : (l.map Prd.pv) = [] := by subst h; rfl
theorem pvs_one (p : Prd) : [[.int .i64 p.kind, .int .i64 p.col, .int .i64 p.op, .bool p.val.null, .int .i64 p.val.kind, .int .i64 p.val.int, bl p.val.bytes, pl p.nil p.list]] = [p].map Prd.pv := by rw [List.map_cons, pv_eq]; rfl
/-- rows and things of some bytes only -/
def R1 (row : List Val) : Prop := ∀ v ∈ row, (bz v.bytes).length ≤ 1000000
inductive Sm : Prd → Prop where
  | mk {k c o : Int} {v : Val} {n : Bool} {l : List Prd} : (bz v.bytes).length ≤ 1000000 → l.length ≤ 1000000 → (∀ q ∈ l, Sm q) → Sm (.mk k c o v n l)
/-! ### what a predicate is of a row -/
def valZ : Val := ⟨false, 0, 0, none⟩
def atV (row : List Val) (c : Int) : Val := if 0 ≤ c then row.getD c.toNat valZ else valZ
def holdsOp (o c : Int) : Bool :=
  if o = 1 then decide (c = 0) else if o = 2 then !decide (c = 0) else if o = 3 then decide (c < 0) else if o = 4 then decide (c ≤ 0) else if o = 5 then decide (0 < c) else if o = 6 then decide (0 ≤ c) else false
def truthI (b : Bool) : Int := if b then 1 else 2
def notI (v : Int) : Int := if v = 1 then 2 else if v = 2 then 1 else 3
def listI (d : Int) : Int → List Int → Int
  | out, [] => out
  | out, v :: r => if v = d then d else if v = 3 then listI d 3 r else listI d out r
mutual
def Prd.eval (row : List Val) : Prd → Int
  | .mk k c o v _ l =>
    if k = 1 then 1
    else if k = 2 then (if (atV row c).null = true then 3 else truthI (holdsOp o (cmpV (atV row c) v)))
    else if k = 3 then truthI (atV row c).null
    else if k = 4 then listI 2 1 (Prd.evals row l)
    else if k = 5 then listI 1 2 (Prd.evals row l)
    else if k = 6 then (match Prd.evals row l with | [] => 3 | x :: _ => notI x)
    else 3
def Prd.evals (row : List Val) : List Prd → List Int
  | [] => []
  | p :: r => p.eval row :: Prd.evals row r
end
theorem evals_map (row : List Val) (l : List Prd) : Prd.evals row l = l.map (Prd.eval row) := by
  induction l with
  | nil => rfl
  | cons p r ih => rw [Prd.evals, ih, List.map_cons]
theorem eval_mk (row : List Val) (k c o : Int) (v : Val) (n : Bool) (l : List Prd) : (Prd.mk k c o v n l).eval row =
    if k = 1 then 1
    else if k = 2 then (if (atV row c).null = true then 3 else truthI (holdsOp o (cmpV (atV row c) v)))
    else if k = 3 then truthI (atV row c).null
    else if k = 4 then listI 2 1 (l.map (Prd.eval row))
    else if k = 5 then listI 1 2 (l.map (Prd.eval row))
    else if k = 6 then (match l.map (Prd.eval row) with | [] => 3 | x :: _ => notI x)
    else 3 := by rw [Prd.eval, evals_map]
theorem listI_snoc (d v : Int) : ∀ (xs : List Int) (out : Int), (∀ x ∈ xs, x ≠ d) → listI d out (xs ++ v :: []) = if v = d then d else if v = 3 then 3 else listI d out xs
  | [], out, _ => by simp only [List.nil_append, listI]
  | x :: r, out, h => by
    have hx : x ≠ d := h x List.mem_cons_self
    have ih := fun out => listI_snoc d v r out (fun y hy => h y (List.mem_cons_of_mem _ hy))
    simp only [List.cons_append, listI, if_neg hx, ih]
    split <;> split <;> first | rfl | (split <;> rfl)
theorem listI_hit (d : Int) (ys : List Int) : ∀ (xs : List Int) (out : Int), (∀ x ∈ xs, x ≠ d) → listI d out (xs ++ d :: ys) = d
  | [], out, _ => by simp [listI]
  | x :: r, out, h => by
    have hx : x ≠ d := h x List.mem_cons_self
    simp only [List.cons_append, listI, if_neg hx, listI_hit d ys r _ (fun y hy => h y (List.mem_cons_of_mem _ hy))]
    split <;> rfl
theorem truthI_range (b : Bool) : 1 ≤ truthI b ∧ truthI b ≤ 3 := by cases b <;> decide
theorem notI_range (v : Int) : 1 ≤ notI v ∧ notI v ≤ 3 := by unfold notI; split <;> (try split) <;> decide
theorem listI_range {d : Int} (hd : 1 ≤ d ∧ d ≤ 3) : ∀ (xs : List Int) (out : Int), 1 ≤ out ∧ out ≤ 3 → 1 ≤ listI d out xs ∧ listI d out xs ≤ 3
  | [], out, h => h
  | x :: r, out, h => by
    rw [listI]
    split
    · exact hd
    · split
      · exact listI_range hd r 3 (by decide)
      · exact listI_range hd r out h
theorem eval_range (row : List Val) (p : Prd) : 1 ≤ p.eval row ∧ p.eval row ≤ 3 := by
  cases p with
  | mk k c o v n l =>
    rw [eval_mk]
    split; decide
    split
    · split; decide; exact truthI_range _
    split; exact truthI_range _
    split; exact listI_range (by decide) _ _ (by decide)
    split; exact listI_range (by decide) _ _ (by decide)
    split
    · split
      · decide
      · exact notI_range _
    · decide
/-! ### of its own memory; the same -/
mutual
def Prd.still : Prd → Prd
  | .mk k c o v _ l => .mk k c o ⟨v.null, v.kind, v.int, some (bz v.bytes)⟩ false (Prd.stills l)
def Prd.stills : List Prd → List Prd
  | [] => []
  | p :: r => p.still :: Prd.stills r
end
theorem stills_map (l : List Prd) : Prd.stills l = l.map Prd.still := by
  induction l with
  | nil => rfl
  | cons p r ih => rw [Prd.stills, ih, List.map_cons]
theorem still_mk (k c o : Int) (v : Val) (n : Bool) (l : List Prd) : (Prd.mk k c o v n l).still = .mk k c o ⟨v.null, v.kind, v.int, some (bz v.bytes)⟩ false (l.map Prd.still) := by
  rw [Prd.still, stills_map]
theorem cmpV_still (a : Val) (v : Val) : cmpV a ⟨v.null, v.kind, v.int, some (bz v.bytes)⟩ = cmpV a v := rfl
theorem eval_still (row : List Val) (p : Prd) : p.still.eval row = p.eval row := by
  induction p using Prd.ind with
  | h k c o v n l ih =>
    have e : (l.map Prd.still).map (Prd.eval row) = l.map (Prd.eval row) := by
      rw [List.map_map]; exact List.map_congr_left fun q hq => ih q hq
    rw [still_mk, eval_mk, eval_mk, e, cmpV_still]
mutual
def Prd.same : Prd → Prd → Bool
  | .mk k c o v _ l, .mk k' c' o' v' _ l' => decide (k = k') && (decide (c = c') && (decide (o = o') && (sameV v v' && Prd.sames l l')))
def Prd.sames : List Prd → List Prd → Bool
  | [], [] => true
  | p :: r, q :: s => p.same q && Prd.sames r s
  | _, _ => false
end
theorem sames_eq : ∀ (l m : List Prd), Prd.sames l m = (decide (l.length = m.length) && (List.zipWith Prd.same l m).all id)
  | [], [] => by simp [Prd.sames]
  | [], _ :: _ => by simp [Prd.sames]
  | _ :: _, [] => by simp [Prd.sames]
  | p :: r, q :: s => by
    rw [Prd.sames, sames_eq r s]
    simp only [List.length_cons, Nat.add_right_cancel_iff, List.zipWith_cons_cons, List.all_cons, id]
    cases p.same q <;> simp
theorem sameV_refl (v : Val) : sameV v v = true := by simp [sameV]
theorem same_refl (p : Prd) : p.same p = true := by
  induction p using Prd.ind with
  | h k c o v n l ih =>
    have : Prd.sames l l = true := by
      rw [sames_eq]
      simp only [decide_true, Bool.true_and, List.all_eq_true]
      intro b hb
      obtain ⟨i, hi, rfl⟩ := List.getElem_of_mem hb
      simp only [List.getElem_zipWith, id]
      exact ih _ (List.getElem_mem _)
    rw [Prd.same, sameV_refl, this]; simp
theorem same_still (p : Prd) : p.still.same p = true := by
  induction p using Prd.ind with
  | h k c o v n l ih =>
    have : Prd.sames (l.map Prd.still) l = true := by
      rw [sames_eq]
      simp only [List.length_map, decide_true, Bool.true_and, List.all_eq_true]
      intro b hb
      obtain ⟨i, hi, rfl⟩ := List.getElem_of_mem hb
      simp only [List.getElem_zipWith, List.getElem_map, id]
      exact ih _ (List.getElem_mem _)
    rw [still_mk, Prd.same, this]; simp [sameV, Val.b, bz]
end Go.Den

/- Den, part Zq: predicates of numbers. No program in sight. -/
namespace Go.Den
open Go
def nAt (l : List Int) (i : Nat) : Int := l.getD i (i * 7919)
def colAt (s : List Col) (n : Int) : Nat := (n / 8 % 256 % s.length).toNat
def bare0 (c : Col) : Col := ⟨c.name, c.kind, false⟩
def leafN (s : List Col) (n k : Int) : Prd :=
  if k = 0 then .mk 1 0 0 valZ true []
  else if k = 1 then .mk 3 (colAt s n) 0 valZ true []
  else .mk 2 (colAt s n) (n / 131072 % 256 % 6 + 1) (if colAt s n = 0 then ⟨false, 1, n / 2048 % 16, none⟩ else valueN (bare0 (s.getD (colAt s n) keyCol)) (n / 2048)) true []
def predN (s : List Col) (l : List Int) : Nat → Nat → Prd
  | 0, i => leafN s (nAt l i) (if 4 < nAt l i % 8 then nAt l i % 8 - 4 else nAt l i % 8)
  | 1, i => leafN s (nAt l i) (if 4 < nAt l i % 8 then nAt l i % 8 - 4 else nAt l i % 8)
  | d + 2, i =>
    if nAt l i % 8 = 5 ∨ nAt l i % 8 = 6 then .mk (nAt l i % 8 - 1) 0 0 valZ true ((List.range (nAt l i / 2048 % 4).toNat).map fun j => predN s l (d + 1) (3 * i + j + 1))
    else if nAt l i % 8 = 7 then .mk 6 0 0 valZ true [predN s l (d + 1) (3 * i + 1)]
    else leafN s (nAt l i) (nAt l i % 8)
theorem colAt_lt {s : List Col} (hs : 1 ≤ s.length) (n : Int) : colAt s n < s.length := by
  unfold colAt
  have h1 := Int.emod_lt_of_pos (n / 8 % 256) (b := s.length) (by omega)
  have h2 := Int.emod_nonneg (n / 8 % 256) (b := s.length) (by omega)
  omega
theorem colAt_int {s : List Col} (hs : 1 ≤ s.length) (n : Int) : n / 8 % 256 % (s.length : Int) = (colAt s n : Int) := by
  unfold colAt
  have h2 := Int.emod_nonneg (n / 8 % 256) (b := s.length) (by omega)
  omega
theorem bytesV_len (n : Int) : (bytesV n).length ≤ 8 := by
  unfold bytesV
  rw [List.length_drop, List.length_take]
  simp; omega
theorem valueN_bytes (c : Col) (n : Int) : (bz (valueN c n).bytes).length ≤ 8 := by
  unfold valueN
  split
  · simp [bz]
  · split
    · simp [bz]
    · simp only [bz_some]; exact bytesV_len n
theorem rowE_bytes (n : Int) (i : Nat) (c : Col) : (bz (rowE n i c).bytes).length ≤ 8 := by
  unfold rowE
  split
  · simp [bz]
  · exact valueN_bytes _ _
theorem rowN_R1 (s : List Col) (n : Int) : R1 (rowN s n) := fun v hv => by
  obtain ⟨i, hi, rfl⟩ := List.getElem_of_mem hv
  simp only [rowN, List.getElem_mapIdx]
  have := rowE_bytes n i (s[i]'(by simpa [rowN] using hi))
  omega
theorem leafN_Sm (s : List Col) (n k : Int) : Sm (leafN s n k) := by
  unfold leafN
  split
  · exact .mk (by simp [valZ, bz]) (by simp) (by simp)
  · split
    · exact .mk (by simp [valZ, bz]) (by simp) (by simp)
    · refine .mk ?_ (by simp) (by simp)
      split
      · simp [bz]
      · have := valueN_bytes (bare0 (s.getD (colAt s n) keyCol)) (n / 2048); omega
theorem predN_Sm (s : List Col) (l : List Int) : ∀ (d i : Nat), Sm (predN s l d i)
  | 0, i => by rw [predN]; exact leafN_Sm _ _ _
  | 1, i => by rw [predN]; exact leafN_Sm _ _ _
  | d + 2, i => by
    rw [predN]
    split
    · refine .mk (by simp [valZ, bz]) (by simp; omega) fun q hq => ?_
      obtain ⟨j, _, rfl⟩ := List.mem_map.1 hq
      exact predN_Sm s l (d + 1) _
    · split
      · refine .mk (by simp [valZ, bz]) (by simp) fun q hq => ?_
        simp only [List.mem_cons, List.not_mem_nil, or_false] at hq
        subst hq
        exact predN_Sm s l (d + 1) _
      · exact leafN_Sm _ _ _
def upto (g : Nat → Prd) (j : Nat) : List Prd := (List.range j).map g
theorem upto_zero (g : Nat → Prd) : upto g 0 = [] := rfl
theorem upto_succ (g : Nat → Prd) (j : Nat) : upto g (j + 1) = upto g j ++ [g j] := by simp [upto, List.range_succ]
theorem upto_length (g : Nat → Prd) (j : Nat) : (upto g j).length = j := by simp [upto]
/-- a list's leaf where it may be none or new -/
def plr (e : TypeId) (l : List Prd) : PV := if l.isEmpty then .nils else .nr e 8 (l.map Prd.pv)
theorem plr_nil (e : TypeId) : plr e [] = .nils := rfl
theorem plr_cons (e : TypeId) (a : Prd) (r : List Prd) : plr e (a :: r) = .nr e 8 ((a :: r).map Prd.pv) := rfl
theorem leafN_list (s : List Col) (n k : Int) : (leafN s n k).list = [] := by unfold leafN; split; rfl; split <;> rfl
theorem leafN_nil (s : List Col) (n k : Int) : (leafN s n k).nil = true := by unfold leafN; split; rfl; split <;> rfl
theorem predN_nil (s : List Col) (l : List Int) (d i : Nat) : (predN s l d i).nil = true := by
  unfold predN
  split
  · exact leafN_nil _ _ _
  · exact leafN_nil _ _ _
  · split; rfl; split; rfl; exact leafN_nil _ _ _
end Go.Den
namespace Go.Den
open Go
theorem arr_empty : (#[] : Array Operand).isEmpty = true := rfl
attribute [go_sem] arr_empty List.append_eq
end Go.Den

/- Den, part Zr: codes whose regions are named, and walked without their edges. -/
namespace Go.Den
open Go
structure LOp where
  dst : Option Tmp
  guard : Option (Option Tmp × Bool)
  op : Op
def lightO (ops : Array Oper) (o : Oper) : LOp := ⟨o.dst, o.guard.map fun g => ((ops[g.1]?).bind (·.dst), g.2), o.op⟩
def light (ops : Array Oper) : List LOp := ops.toList.map (lightO ops)
def wantV (w : Bool) : Option PV → Option Bool
  | some (.bool b) => some (b == w)
  | some .undef => some false
  | _ => none
def wantsL (S : St) : Option (Option Tmp × Bool) → Option Bool
  | none => some true
  | some (none, _) => none
  | some (some t, w) => wantV w (S.slot t)
theorem wantsL_eq (ops : Array Oper) (o : Oper) (S : St) : wantsO ops o S = wantsL S (lightO ops o).guard := by
  unfold wantsO wantsL lightO
  rcases o.guard with _ | ⟨j, w⟩
  · rfl
  · dsimp only [Option.map_some]
    rcases ops[j]? with _ | q
    · rfl
    · dsimp only [Option.bind_some]
      rcases q.dst with _ | t
      · rfl
      · dsimp only
        unfold wantV
        rcases S.slot t with _ | v
        · rfl
        · cases v <;> rfl
def stepL (E : Env) (call : Call) (i : Nat) (dst : Option Tmp) (op : Op) (sl : List (Nat × PV)) (m : List (Nat × Option Ent)) (ep : Nat) : Option Bool → Option (St × Tr)
  | none => none
  | some false => some (St.put ⟨sl, m, ep⟩ dst .undef [], ⟨[], [], [], []⟩)
  | some true => stepR dst sl m ep ((opSem E call (ep * 33554432 + i * 64) (St.slot ⟨sl, m, ep⟩) op).run (St.at ⟨sl, m, ep⟩))
def runS (E : Env) (call : Call) : Nat → List LOp → St → Option (St × List Tr)
  | _, [], S => some (S, [])
  | i, o :: r, S =>
    match stepL E call i o.dst o.op S.sl S.mem S.ep (wantsL S o.guard) with
    | none => none
    | some (S1, t) =>
      match runS E call (i + 1) r S1 with
      | none => none
      | some (S2, ts) => some (S2, t :: ts)
theorem stepO_l (E : Env) (call : Call) (ops : Array Oper) (i : Nat) (o : Oper) (S : St) : stepO E call ops i o S = stepL E call i (lightO ops o).dst (lightO ops o).op S.sl S.mem S.ep (wantsL S (lightO ops o).guard) := by
  obtain ⟨sl, m, ep⟩ := S
  rw [stepO_w, wantsL_eq]
  rcases wantsL ⟨sl, m, ep⟩ (lightO ops o).guard with _ | _ | _ <;> rfl
theorem runO_light (E : Env) (call : Call) (ops : Array Oper) : ∀ (l : List Oper) (i : Nat) (S : St), runO E call ops i l S = runS E call i (l.map (lightO ops)) S
  | [], i, S => rfl
  | o :: r, i, S => by
    rw [runO, List.map_cons, runS, stepO_l]
    rcases stepL E call i (lightO ops o).dst (lightO ops o).op S.sl S.mem S.ep (wantsL S (lightO ops o).guard) with _ | ⟨S1, t⟩
    · rfl
    · dsimp only
      rw [runO_light E call ops r (i + 1) S1]
      rfl
def runK2 (E : Env) (call : Call) (i : Nat) (r : List LOp) : Option (St × Tr) → Option (St × List Tr)
  | none => none
  | some (S1, t) => runJ t (runS E call (i + 1) r S1)
theorem runK2_none (E : Env) (call : Call) (i : Nat) (r : List LOp) : runK2 E call i r none = none := rfl
theorem runK2_some (E : Env) (call : Call) (i : Nat) (r : List LOp) (S : St) (t : Tr) : runK2 E call i r (some (S, t)) = runJ t (runS E call (i + 1) r S) := rfl
theorem runS_nil (E : Env) (call : Call) (i : Nat) (S : St) : runS E call i [] S = some (S, []) := rfl
theorem runS_cons (E : Env) (call : Call) (i : Nat) (dst : Option Tmp) (g : Option (Option Tmp × Bool)) (op : Op) (r : List LOp) (sl : List (Nat × PV)) (m : List (Nat × Option Ent)) (ep : Nat) :
    runS E call i (⟨dst, g, op⟩ :: r) ⟨sl, m, ep⟩ = runK2 E call i r (stepL E call i dst op sl m ep (wantsL ⟨sl, m, ep⟩ g)) := by
  rw [runS]
  dsimp only
  rcases stepL E call i dst op sl m ep (wantsL ⟨sl, m, ep⟩ g) with _ | ⟨S1, t⟩
  · rfl
  · rw [runK2_some]
    rcases h : runS E call (i + 1) r S1 with _ | ⟨S2, ts⟩ <;> simp [runJ, h]
theorem stepL_none (E : Env) (call : Call) (i : Nat) (dst : Option Tmp) (op : Op) (sl : List (Nat × PV)) (m : List (Nat × Option Ent)) (ep : Nat) : stepL E call i dst op sl m ep none = none := rfl
theorem stepL_false (E : Env) (call : Call) (i : Nat) (dst : Option Tmp) (op : Op) (sl : List (Nat × PV)) (m : List (Nat × Option Ent)) (ep : Nat) : stepL E call i dst op sl m ep (some false) = some (St.put ⟨sl, m, ep⟩ dst .undef [], ⟨[], [], [], []⟩) := rfl
theorem stepL_true (E : Env) (call : Call) (i : Nat) (dst : Option Tmp) (op : Op) (sl : List (Nat × PV)) (m : List (Nat × Option Ent)) (ep : Nat) : stepL E call i dst op sl m ep (some true) = stepR dst sl m ep ((opSem E call (ep * 33554432 + i * 64) (St.slot ⟨sl, m, ep⟩) op).run (St.at ⟨sl, m, ep⟩)) := rfl
theorem wantsL_none (S : St) : wantsL S none = some true := rfl
theorem wantsL_some (S : St) (t : Tmp) (w : Bool) : wantsL S (some (some t, w)) = wantV w (S.slot t) := rfl
theorem wantV_bool (w b : Bool) : wantV w (some (.bool b)) = some (b == w) := rfl
theorem wantV_undef (w : Bool) : wantV w (some .undef) = some false := rfl
/-- the operations of a region, by its number -/
def regOf (n : Nat) : Code → Option (Array Oper)
  | .region id ops _ => if id == n then some ops else none
  | .seq a b => match regOf n a with | some x => some x | none => regOf n b
  | .cond _ a b => match regOf n a with | some x => some x | none => regOf n b
  | .block _ b => regOf n b
  | .loop b => regOf n b
  | .scope b => regOf n b
  | _ => none
def R (fn : Func) (n : Nat) : Array Oper := match fn.body with | some c => (regOf n c).getD #[] | none => #[]
def regN (P : Out → St → Prop) : Option (St × List Tr) → Prop
  | some (S', _) => P .normal { S' with ep := S'.ep + 1 }
  | none => False
def regD (ops : Array Oper) (P : Out → St → Prop) : Option (St × List Tr) → Prop
  | some (S', tr) => drawOK ops tr = true ∧ P .normal { S' with ep := S'.ep + 1 }
  | none => False
theorem regN_some (P : Out → St → Prop) (sl : List (Nat × PV)) (m : List (Nat × Option Ent)) (ep : Nat) (tr : List Tr) : regN P (some (⟨sl, m, ep⟩, tr)) = P .normal ⟨sl, m, ep + 1⟩ := rfl
theorem regN_none (P : Out → St → Prop) : regN P none = False := rfl
theorem regD_some (ops : Array Oper) (P : Out → St → Prop) (sl : List (Nat × PV)) (m : List (Nat × Option Ent)) (ep : Nat) (tr : List Tr) : regD ops P (some (⟨sl, m, ep⟩, tr)) = (drawOK ops tr = true ∧ P .normal ⟨sl, m, ep + 1⟩) := rfl
theorem regD_none (ops : Array Oper) (P : Out → St → Prop) : regD ops P none = False := rfl
theorem rgF {E : Env} {f : FuncId} {ops : Array Oper} {L : List LOp} (h : light ops = L) (hs : Nat.ble ops.size 524288 = true) {nl id : Nat} {S : St} {P : Out → St → Prop} : Runs E f nl (.region id ops false) S P = regN P (runS E (dw E) 0 L S) := by
  rw [runs_reg, runO_light, show ops.toList.map (lightO ops) = L from h]
  rcases runS E (dw E) 0 L S with _ | ⟨S', tr⟩
  · rfl
  · show ((Nat.ble ops.size 524288 && (!false || drawOK ops tr)) = true ∧ _) = _
    rw [hs]
    exact propext ⟨fun h => h.2, fun h => ⟨rfl, h⟩⟩
theorem rgT {E : Env} {f : FuncId} {ops : Array Oper} {L : List LOp} (h : light ops = L) (hs : Nat.ble ops.size 524288 = true) {nl id : Nat} {S : St} {P : Out → St → Prop} : Runs E f nl (.region id ops true) S P = regD ops P (runS E (dw E) 0 L S) := by
  rw [runs_reg, runO_light, show ops.toList.map (lightO ops) = L from h]
  rcases runS E (dw E) 0 L S with _ | ⟨S', tr⟩
  · rfl
  · show ((Nat.ble ops.size 524288 && (!true || drawOK ops tr)) = true ∧ _) = _
    rw [hs]
    rfl
attribute [go_sem] wantsL_none wantsL_some wantV_bool wantV_undef stepL_none stepL_false stepL_true runS_nil runS_cons runK2_none runK2_some regN_some regN_none regD_some regD_none
theorem rgF' {E : Env} {f id : Nat} (fn : Func) (h : (R fn id).size.ble 524288 = true) {nl : Nat} {S : St} {P : Out → St → Prop} : Runs E f nl (.region id (R fn id) false) S P = regN P (runS E (dw E) 0 (light (R fn id)) S) := rgF rfl h
theorem rgT' {E : Env} {f id : Nat} (fn : Func) (h : (R fn id).size.ble 524288 = true) {nl : Nat} {S : St} {P : Out → St → Prop} : Runs E f nl (.region id (R fn id) true) S P = regD (R fn id) P (runS E (dw E) 0 (light (R fn id)) S) := rgT rfl h
end Go.Den

/- Den, part Zs: what every walk's simp has, under one name. -/
namespace Go.Den
open Go
attribute [go_sem_proc] reduceCtorEq reduceDIte Nat.reduceAdd Nat.reduceMul Nat.reduceSub Nat.reduceBEq Nat.reduceBNe Nat.reduceBeqDiff Nat.reduceLT Nat.reduceLeDiff Nat.reduceEqDiff Nat.reduceDiv Nat.reduceMod Nat.reducePow Int.reduceLT Int.reduceLE Int.reduceGT Int.reduceGE Int.reduceEq Int.reduceNe Int.reduceToNat Int.reduceNeg Int.reducePow Int.reduceAdd Int.reduceMul Int.reduceSub Int.reduceBEq Int.reduceMod Int.reduceDiv Int.reduceNatCast
attribute [go_sem_proc ↓] Nat.reduceBEq Nat.reduceEqDiff Nat.reduceLT Nat.reduceLeDiff Int.reduceEq Int.reduceLT Int.reduceLE
/-- the rows of numbers and of lengths -/
theorem dr : (type_of% @Int.add_sub_cancel) ∧ (type_of% @Int.add_zero) ∧ (type_of% @Nat.add_zero) ∧ (type_of% @Nat.zero_add) ∧ (type_of% @Int.zero_add) ∧ (type_of% @Int.natCast_add) ∧ (type_of% @Int.natCast_mul) ∧ (type_of% @tdv) ∧ (type_of% @tmd) ∧ (type_of% @fdv) ∧ (type_of% @s64) ∧ (type_of% @u64) ∧ (type_of% @u8m) ∧ (type_of% @ilt_t) ∧ (type_of% @ilt_f) ∧ (type_of% @ile_t) ∧ (type_of% @ile_f) ∧ (type_of% @ieq_t) ∧ (type_of% @ieq_f) ∧ (type_of% @nlt_t) ∧ (type_of% @nlt_f) ∧ (type_of% @nle_t) ∧ (type_of% @nle_f) ∧ (type_of% @neq_t) ∧ (type_of% @neq_f) ∧ (type_of% @Int.toNat_natCast) ∧ (type_of% @List.length_append.{0}) ∧ (type_of% @List.length_take.{0}) ∧ (type_of% @List.length_drop.{0}) ∧ (type_of% @List.length_replicate.{0}) ∧ (type_of% @List.length_set.{0}) := ⟨@Int.add_sub_cancel, @Int.add_zero, @Nat.add_zero, @Nat.zero_add, @Int.zero_add, @Int.natCast_add, @Int.natCast_mul, @tdv, @tmd, @fdv, @s64, @u64, @u8m, @ilt_t, @ilt_f, @ile_t, @ile_f, @ieq_t, @ieq_f, @nlt_t, @nlt_f, @nle_t, @nle_f, @neq_t, @neq_f, @Int.toNat_natCast, @List.length_append, @List.length_take, @List.length_drop, @List.length_replicate, @List.length_set⟩
end Go.Den
