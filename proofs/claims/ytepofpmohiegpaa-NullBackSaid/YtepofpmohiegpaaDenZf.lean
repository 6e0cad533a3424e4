/- Den, part Zf: bytes.Compare, by the model's own entry. -/
import Derived.Test.YtepofpmohiegpaaDenZa
import Derived.Lib.BytesEntry
namespace Go.Den
open Go Go.RowKit
variable {P : Program}
def bytesP : PV → Option (List UInt8)
  | .nils => some []
  | .sl 1 xs => toBytes xs
  | _ => none
def compareF : List PV → Option PV
  | [a, b] =>
    match bytesP a, bytesP b with
    | some x, some y => some (.int .i64 (Lib.compareBytes x y))
    | _, _ => none
  | _ => none
/-- What the bytes of a slice are. -/
def BytesAt (P : Program) (w : World) (v : Value) (l : List UInt8) : Prop := (Extern.Bytes.bytesOf v).run P w = .ok ⟨l.toArray⟩ w
def RunsCompare (P : Program) (f : FuncId) : Prop := ∀ (a b : Option Addr) (n c m d : Nat) (x y : List UInt8) (w : World), BytesAt P w (.slice a n c) x → BytesAt P w (.slice b m d) y →
  Calls P f #[.slice a n c, .slice b m d] w fun e w' => e = .returned (.int .i64 (Lib.compareBytes x y)) ∧ w' = w
theorem run_compareSl {w : World} {va vb : Value} {x y : List UInt8} (hx : BytesAt P w va x) (hy : BytesAt P w vb y) :
    (Extern.BytealgCompare.compare #[va, vb]).run P w = .ok (.int .i64 (Lib.compareBytes x y)) w := by
  change Sem.run P (do pure (goInt (Extern.BytealgCompare.cmp (← Extern.Bytes.bytesOf va) (← Extern.Bytes.bytesOf vb)))) w = _
  unfold BytesAt at hx hy
  simp only [Sem.run_bind, Sem.run_pure, hx, hy, Result.andThen]
  rw [Lib.cmp_eq]
  rfl
theorem bytesAt_of {w : World} {ok : Nat → Prop} {G : Gh} {v : Value} {p : PV} {l : List UInt8} (h : RepS w ok G v p) (hp : bytesP p = some l) : (∃ a n c, v = .slice a n c) ∧ BytesAt P w v l := by
  unfold bytesP at hp
  split at hp
  · injection hp with hp
    subst hp
    have := h.nils
    subst this
    refine ⟨⟨_, _, _, rfl⟩, ?_⟩
    simp only [BytesAt, Extern.Bytes.bytesOf, Sem.run_pure]
    rfl
  · rename_i xs
    obtain ⟨ns, rfl, rfl⟩ := toBytes_spec hp
    have h := h.rep rfl
    generalize hL : ns.map (fun n => [PV.int .u8 n]) = L at h
    cases h with
    | sl a c _ _ vs hc hz hpl hr hv =>
      refine ⟨⟨_, _, _, rfl⟩, ?_⟩
      subst hL
      cases a with
      | none =>
        have : ns = [] := by
          cases ns with
          | nil => rfl
          | cons n r =>
            obtain ⟨g, o, hg, _⟩ := hr 0 [.int .u8 n] 0 (.int .u8 n) rfl rfl
            cases hg
        subst this
        simp only [BytesAt, Extern.Bytes.bytesOf, Sem.run_pure]
        rfl
      | some x =>
        have hcell : ∀ j z, ns[j]? = some z → w.cell? (x.add j) = some (.int .u8 z) := fun j z hj => by
          have e : (ns.map fun n => [PV.int .u8 n])[j]? = some [.int .u8 z] := by simp [hj]
          obtain ⟨g, o, hg, _, hcell⟩ := hr j _ 0 (.int .u8 z) e rfl
          injection hg with hg
          subst hg
          have hv := hv j _ 0 (.int .u8 z) e rfl
          generalize vs j 0 = u at hv hcell
          cases hv
          rw [add_off]
          simpa using hcell
        have := Lib.run_loadBytesX (P := P) w ns x .empty hcell
        simp only [BytesAt, Extern.Bytes.bytesOf, List.length_map]
        rw [this]
        congr 1
        apply ByteArray.ext
        show (#[] : Array UInt8) ++ (Lib.bytesOf ns).toArray = _
        simp [Lib.bytesOf]
  · cases hp
theorem two_args {ok G} {w : World} {vs : Array Value} {p q : PV} (ha : ArgsOk w ok G vs [p, q]) : ∃ u v, vs = #[u, v] ∧ RepS w ok G u p ∧ RepS w ok G v q := by
  have h1 := ha.1
  have hu : ∃ u v, vs = #[u, v] := by
    rcases vs with ⟨_ | ⟨u, _ | ⟨v, _ | ⟨u', r⟩⟩⟩⟩ <;> simp at h1
    exact ⟨u, v, rfl⟩
  obtain ⟨u, v, rfl⟩ := hu
  exact ⟨u, v, rfl, ha.2 0 u p rfl rfl, ha.2 1 v q rfl rfl⟩
theorem compare_contract {f : FuncId} (h : RunsCompare P f) : ∀ args res, compareF args = some res → Contract P f args [] res [] := by
  intro args res hc w vs bl ok hok hl ha
  have hbl : bl = [] := List.length_eq_zero_iff.1 hl.len
  subst hbl
  unfold compareF at hc
  split at hc
  · rename_i a b
    split at hc
    · rename_i x y hx hy
      injection hc with hc
      subst hc
      obtain ⟨u, v, rfl, hu, hv⟩ := two_args ha
      obtain ⟨⟨a1, n, c, rfl⟩, h1⟩ := bytesAt_of (P := P) hu hx
      obtain ⟨⟨a2, m, d, rfl⟩, h2⟩ := bytesAt_of (P := P) hv hy
      refine (h a1 a2 n c m d x y w h1 h2).mono fun e w' ⟨he, hw⟩ => ⟨_, he, ?_⟩
      subst hw
      exact ⟨Kept.refl _ _, [], [], List.nodup_nil, by simp, .one (.leaf (.pl (.int _ _) rfl)), .nil⟩
    · cases hc
  · cases hc
end Go.Den
