/- Den, part G: arithmetic and comparison; sealing; lengths; cuts. -/
import Derived.Test.YtepofpmohiegpaaDenF
import Derived.Laws.Strings
import Derived.Laws.Pointers
import Derived.Laws.Small
import Derived.Lib.Strings
import Derived.Lib.SmallJoins
namespace Go.Den
variable {P : Program} {w0 w : World} {bl : List Nat} {D D' : Nat → Prop} {m : Nat → Option Ent} {G : Gh}

/-! ### arithmetic -/
theorem evBin_run {ok} {op : BinOp} {t : TypeId} {x y v : PV} {a b : Value} (h : evBin P op t x y = some v) (ha : RepS w ok G a x) (hb : RepS w ok G b y) (ox oy : Operand) :
    ∃ v', (do eqGuard op t ox oy a b; binOp op t a b : Sem Value).run P w = .ok v' w ∧ RepS w ok G v' v := by
  cases x with
  | int k n =>
    have := ha.int; subst this
    cases y with
    | int k' n' =>
      have := hb.int; subst this
      cases op with
      | shl =>
        simp only [evBin] at h
        split at h
        · cases h
        · rename_i hn
          injection h with h; subst h
          exact ⟨_, by simp [eqGuard, binOp, Op.shift, hn], .leaf (.pl (.int ..) rfl)⟩
      | shr =>
        simp only [evBin] at h
        split at h
        · cases h
        · rename_i hn
          injection h with h; subst h
          exact ⟨_, by simp [eqGuard, binOp, Op.shift, hn], .leaf (.pl (.int ..) rfl)⟩
      | quo =>
        simp only [evBin] at h
        split at h
        · rename_i hk; subst hk
          simp only [binInt] at h
          split at h
          · cases h
          · rename_i hz
            injection h with h; subst h
            exact ⟨_, by simp [eqGuard, binOp, Op.intDiv, hz], .leaf (.pl (.int ..) rfl)⟩
        · cases h
      | rem =>
        simp only [evBin] at h
        split at h
        · rename_i hk; subst hk
          simp only [binInt] at h
          split at h
          · cases h
          · rename_i hz
            injection h with h; subst h
            exact ⟨_, by simp [eqGuard, binOp, Op.intDiv, hz], .leaf (.pl (.int ..) rfl)⟩
        · cases h
      | _ =>
        simp only [evBin] at h
        split at h
        · rename_i hk; subst hk
          simp only [binInt, cmpInt] at h
          first
            | (injection h with h; subst h
               exact ⟨_, by simp [eqGuard, binOp, Op.intArith, Op.intBits, Op.intCmp]; rfl, .leaf (.pl (.int ..) rfl)⟩)
            | (injection h with h; subst h
               exact ⟨_, by simp [eqGuard, binOp, Op.intArith, Op.intBits, Op.intCmp], .leaf (.pl (.int ..) rfl)⟩)
            | (injection h with h; subst h
               exact ⟨_, by simp [eqGuard, binOp, Op.intCmp], .leaf (.pl (.bool ..) rfl)⟩)
            | cases h
        · cases h
    | _ => simp [evBin] at h
  | str l =>
    obtain ⟨s, rfl, rfl⟩ := ha.str
    cases y with
    | str l' =>
      obtain ⟨s', rfl, rfl⟩ := hb.str
      simp only [evBin] at h
      cases op with
      | add =>
        simp only [binStr] at h
        split at h
        · rename_i hle
          injection h with h; subst h
          have hle' : ¬ (((s.size + s'.size : Nat) : Int) > IntKind.i64.max) := by
            have e1 : s.data.toList.length = s.size := by rw [Array.length_toList]; rfl
            have e2 : s'.data.toList.length = s'.size := by rw [Array.length_toList]; rfl
            have e3 : IntKind.i64.max = 9223372036854775807 := by decide
            rw [e3]
            omega
          refine ⟨.string (s ++ s'), ?_, ?_⟩
          · show Sem.run P (do eqGuard .add t ox oy (.string s) (.string s'); Op.stringOp .add s s') w = _
            simp only [eqGuard, Op.stringOp, if_neg hle', Sem.run_bind]
            rfl
          · have := Rep.str (w := w) (ok := ok) (s ++ s')
            rw [Joins.data_append] at this
            exact .leaf (.pl this rfl)
        · cases h
      | _ =>
        simp only [binStr] at h
        first
          | (injection h with h; subst h
             exact ⟨_, by simp [eqGuard, binOp, Op.stringOp, ByteArray.toList_eq]; rfl, .leaf (.pl (.bool ..) rfl)⟩)
          | (injection h with h; subst h
             exact ⟨_, by simp [eqGuard, binOp, Op.stringOp, ByteArray.toList_eq], .leaf (.pl (.bool ..) rfl)⟩)
          | cases h
    | _ => simp [evBin] at h
  | bool c =>
    have := ha.bool; subst this
    cases y with
    | bool c' =>
      have := hb.bool; subst this
      simp only [evBin] at h
      split at h
      · rename_i hu
        cases op <;> simp only at h <;> first
          | (injection h with h; subst h
             exact ⟨_, by simp [eqGuard, binOp, run_equal_bool w t c c' hu], .leaf (.pl (.bool ..) rfl)⟩)
          | cases h
      · cases h
    | _ => simp [evBin] at h
  | _ =>
    simp only [evBin] at h
    split at h
    · rename_i pt hu
      split at h
      · have := hb.nilp; subst this
        have hpt : P.underlying t = some (.pointer (P.pointee t)) := by simp [Program.pointee, hu]
        first
          | (have := ha.nilp; subst this
             cases op <;> simp only at h <;> first
               | (injection h with h; subst h
                  exact ⟨_, by simp [eqGuard, binOp, run_equal_pointer_nil w t _ hpt], .leaf (.pl (.bool ..) rfl)⟩)
               | cases h)
          | (cases op <;> simp only [isPtr, if_true, if_false, Bool.false_eq_true] at h <;> first
               | (obtain ⟨_, _, rfl⟩ := ha.pb
                  injection h with h; subst h
                  exact ⟨_, by simp [eqGuard, binOp, run_equal_pointer_nil w t _ hpt], .leaf (.pl (.bool ..) rfl)⟩)
               | (obtain ⟨_, _, _, _, rfl⟩ := ha.pe
                  injection h with h; subst h
                  exact ⟨_, by simp [eqGuard, binOp, run_equal_pointer_nil w t _ hpt], .leaf (.pl (.bool ..) rfl)⟩)
               | (obtain ⟨_, rfl⟩ := nilCheck_sim ha rfl
                  injection h with h; subst h
                  exact ⟨_, by simp [eqGuard, binOp, run_equal_pointer_nil w t _ hpt], .leaf (.pl (.bool ..) rfl)⟩)
               | cases h)
      · cases h
    · cases h

theorem evUn_run {ok} {op : UnOp} {x v : PV} {a : Value} (h : evUn op x = some v) (ha : RepS w ok G a x) : ∃ v', (Op.unary op a).run P w = .ok v' w ∧ RepS w ok G v' v := by
  cases op <;> simp only [evUn] at h
  case neg =>
    cases x <;> simp only at h <;> try cases h
    have := ha.int; subst this
    exact ⟨_, by simp [Op.unary, Op.intArith], .leaf (.pl (.int ..) rfl)⟩
  case not =>
    cases x <;> simp only at h <;> try cases h
    have := ha.bool; subst this
    exact ⟨_, by simp [Op.unary], .leaf (.pl (.bool ..) rfl)⟩
  case xor =>
    cases x <;> simp only at h <;> try cases h
    have := ha.int; subst this
    exact ⟨_, by simp only [Op.unary, Op.intBits]; rfl, .leaf (.pl (.int ..) rfl)⟩
  case plus => cases h
end Go.Den
