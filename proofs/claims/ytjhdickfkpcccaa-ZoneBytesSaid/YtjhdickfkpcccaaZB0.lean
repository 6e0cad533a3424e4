/- Rows of bytes handed in; the least and the greatest of them. -/
import Derived.Test.YtjhdickfkpcccaaZone4
namespace Go.Proofs.Ytjhdickfkpcccaa.D
open Go Go.Den
set_option linter.unusedSimpArgs false
set_option linter.unusedVariables false
set_option maxRecDepth 20000
set_option maxHeartbeats 8000000
/-- a slice of bytes in the heap: where, its length, its room, its bytes -/
structure RB where
  a : Option Addr
  len : Nat
  cap : Nat
  zs : List Int
def RowIn (w : World) (r : RB) : Prop := (r.a = none ∧ r.len = 0 ∧ r.cap = 0 ∧ r.zs = []) ∨
  ∃ x, r.a = some x ∧ r.len ≤ r.cap ∧ r.cap ≤ maxLen ∧ r.zs.length = r.cap ∧ (∀ i, i < r.zs.length → w.cell? (x.add i) = some (.int .u8 (r.zs.getD i 0))) ∧ ∀ n ∈ r.zs, (Lit.int .u8 n).wf = true
/-- a slice of such -/
def RowsIn (w : World) (a : Option Addr) (len cap : Nat) (rs : List RB) : Prop := (a = none ∧ len = 0 ∧ cap = 0 ∧ rs = []) ∨
  ∃ x, a = some x ∧ len ≤ cap ∧ rs.length = len ∧ ∀ i r, rs[i]? = some r → w.cell? (x.add i) = some (.slice r.a r.len r.cap) ∧ RowIn w r
def rowPV (r : RB) : List PV := [rowOf .u8 (r.zs.take r.len)]
theorem arg_rows {w : World} {G} {a : Option Addr} {len cap : Nat} {rs : List RB} (h : RowsIn w a len cap rs) : RepS w (fun k => k < w.heap.size) G (.slice a len cap) (.sl 1 (rs.map rowPV)) := by
  refine .leaf (.pl ?_ rfl)
  have hlen : (rs.map rowPV).length = len := by
    rcases h with ⟨_, rfl, _, rfl⟩ | ⟨x, _, _, h, _⟩
    · rfl
    · rw [List.length_map]; exact h
  have hmem : ∀ x ∈ rs.map rowPV, ∃ r, x = rowPV r := fun x hx => by
    obtain ⟨r, _, rfl⟩ := List.mem_map.1 hx
    exact ⟨r, rfl⟩
  have base : Rep w (fun k => k < w.heap.size) (.slice a (rs.map rowPV).length cap) (.sl 1 (rs.map rowPV)) := by
    refine .sl a cap 1 _ (fun i _ => match rs[i]? with | some r => .slice r.a r.len r.cap | none => .slice none 0 0) ?_ (fun x hx => by obtain ⟨z, rfl⟩ := hmem x hx; rfl) (fun x hx p hp => by obtain ⟨z, rfl⟩ := hmem x hx; simp [rowPV] at hp; subst hp; rfl) (fun i x j p hx hp => ?_) (fun i x j p hx hp => ?_)
    · rw [hlen]
      rcases h with ⟨_, rfl, rfl, rfl⟩ | ⟨x, _, h1, _⟩
      · exact Nat.le_refl _
      · exact h1
    · rcases h with ⟨_, rfl, _, rfl⟩ | ⟨y, rfl, h1, h2, h3⟩
      · simp at hx
      · rw [List.getElem?_map, Option.map_eq_some_iff] at hx
        obtain ⟨r, hr, rfl⟩ := hx
        have hj : j = 0 := by
          cases j with
          | zero => rfl
          | succ j => simp [rowPV] at hp
        subst hj
        have hc := (h3 i r hr).1
        have hi : i < rs.length := (List.getElem?_eq_some_iff.1 hr).1
        have h0 := (h3 0 (rs[0]'(by omega)) (List.getElem?_eq_getElem (by omega))).1
        have hs := World.cell?_spot h0
        obtain ⟨g, o, s⟩ := y
        have hsn : s = none := by
          simpa [Addr.add] using hs
        subst hsn
        rw [add_off] at hc
        exact ⟨g, o, rfl, cell_lt hc, by simpa [hr] using hc⟩
    · rcases h with ⟨_, rfl, _, rfl⟩ | ⟨y, rfl, h1, h2, h3⟩
      · simp at hx
      · rw [List.getElem?_map, Option.map_eq_some_iff] at hx
        obtain ⟨r, hr, rfl⟩ := hx
        cases j with
        | succ j => simp [rowPV] at hp
        | zero =>
          simp [rowPV] at hp
          subst hp
          rw [hr]
          exact (arg_row (G := G) (h3 i r hr).2).rep rfl
  rw [hlen] at base
  exact base
/-! the least, the greatest -/
def u8s (zs : List Int) : List UInt8 := zs.map toU8
def loF : List (List UInt8) → List UInt8
  | [] => []
  | r :: t => t.foldl (fun m x => if Lib.compareBytes x m < 0 then x else m) r
def hiF : List (List UInt8) → List UInt8
  | [] => []
  | r :: t => t.foldl (fun m x => if 0 < Lib.compareBytes x m then x else m) r
theorem loF_snoc (l : List (List UInt8)) (x : List UInt8) : loF (l ++ [x]) = if l = [] then x else if Lib.compareBytes x (loF l) < 0 then x else loF l := by
  cases l with
  | nil => rfl
  | cons r t => rw [List.cons_append, loF, List.foldl_append, if_neg (by simp)]; rfl
theorem hiF_snoc (l : List (List UInt8)) (x : List UInt8) : hiF (l ++ [x]) = if l = [] then x else if 0 < Lib.compareBytes x (hiF l) then x else hiF l := by
  cases l with
  | nil => rfl
  | cons r t => rw [List.cons_append, hiF, List.foldl_append, if_neg (by simp)]; rfl
def colsB : List Col := [⟨[107, 101, 121], 1, false⟩, ⟨[97], 2, false⟩]
def rowB (i : Nat) (zs : List Int) : List Val := [⟨false, 1, i, none⟩, ⟨false, 2, 0, some zs⟩]
def rowsB (R : List (List Int)) : List (List Val) := R.mapIdx rowB
theorem rowsB_len (R : List (List Int)) : (rowsB R).length = R.length := by simp [rowsB]
theorem rowsB_snoc (R : List (List Int)) (zs : List Int) : rowsB (R ++ [zs]) = rowsB R ++ [rowB R.length zs] := by simp [rowsB, List.mapIdx_append]
theorem zoneB (R : List (List Int)) : (R = [] ∧ zoneC 2 1 (rowsB R) = zone0 2) ∨ (R ≠ [] ∧ ∃ lo hi : List Int, zoneC 2 1 (rowsB R) = ⟨0, ⟨false, 2, 0, some lo⟩, ⟨false, 2, 0, some hi⟩⟩ ∧ u8s lo = loF (R.map u8s) ∧ u8s hi = hiF (R.map u8s)) := by
  have key : ∀ n (R : List (List Int)), R.length = n → (R = [] ∧ zoneC 2 1 (rowsB R) = zone0 2) ∨ (R ≠ [] ∧ ∃ lo hi : List Int, zoneC 2 1 (rowsB R) = ⟨0, ⟨false, 2, 0, some lo⟩, ⟨false, 2, 0, some hi⟩⟩ ∧ u8s lo = loF (R.map u8s) ∧ u8s hi = hiF (R.map u8s)) := by
    intro n
    induction n with
    | zero => intro R h; exact .inl ⟨List.length_eq_zero_iff.1 h, by rw [List.length_eq_zero_iff.1 h]; rfl⟩
    | succ n ih =>
      intro R h
      obtain ⟨R', zs, rfl⟩ : ∃ R' zs, R = R' ++ [zs] := ⟨R.dropLast, R.getLast (by intro e; subst e; simp at h), (List.dropLast_concat_getLast _).symm⟩
      have h' : R'.length = n := by simpa using h
      refine .inr ⟨by simp, ?_⟩
      have e : zoneC 2 1 (rowsB (R' ++ [zs])) = takeN (zoneC 2 1 (rowsB R')) ⟨false, 2, 0, some zs⟩ := by
        unfold zoneC
        rw [rowsB_snoc, List.foldl_append]
        rfl
      rw [e, List.map_append, List.map_cons, List.map_nil, loF_snoc, hiF_snoc]
      rcases ih R' h' with ⟨rfl, hz⟩ | ⟨hne, lo, hi, hz, h1, h2⟩
      · rw [hz]
        exact ⟨zs, zs, rfl, rfl, rfl⟩
      · rw [hz]
        have hm : R'.map u8s ≠ [] := by simpa using hne
        rw [if_neg hm, if_neg hm, ← h1, ← h2]
        have c1 : cmpV ⟨false, 2, 0, some zs⟩ ⟨false, 2, 0, some lo⟩ = Lib.compareBytes (u8s zs) (u8s lo) := by rw [cmpV_nn rfl rfl]; rfl
        have c2 : cmpV ⟨false, 2, 0, some zs⟩ ⟨false, 2, 0, some hi⟩ = Lib.compareBytes (u8s zs) (u8s hi) := by rw [cmpV_nn rfl rfl]; rfl
        unfold takeN
        rw [if_neg (by simp), if_neg (by simp)]
        dsimp only
        rw [c1, c2]
        refine ⟨if Lib.compareBytes (u8s zs) (u8s lo) < 0 then zs else lo, if 0 < Lib.compareBytes (u8s zs) (u8s hi) then zs else hi, ?_, ?_, ?_⟩
        · congr 1
          · split <;> rfl
          · split <;> rfl
        · split <;> rfl
        · split <;> rfl
  exact key _ R rfl
end Go.Proofs.Ytjhdickfkpcccaa.D
