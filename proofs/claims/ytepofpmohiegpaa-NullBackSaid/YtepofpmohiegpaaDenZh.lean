/- Den, part Zh: what the evaluator's rules say, form by form (so that simp goes on only where the form is known). -/
import Derived.Test.YtepofpmohiegpaaDenZg
namespace Go.Den
open Go
def normOne (n : NI) : Option (PV × List (Nat × Ent) × List Nat × List Nat) → Option NR
  | some (x, w, ds, fs) => some ([(n.t, x)], w, ds, fs)
  | none => none
def normV (S : St) (dup : Nat → Bool) (n : NI) (v : PV) : Option NR :=
    match v with
    | .agg cs => match normLeafs S dup n.t n.rows 0 cs with | some (vs, w, ds, fs) => some ([(n.t, .agg vs)], w, ds, fs) | none => none
    | .fn _ cs => if cs.all plainLeaf then some ([(n.t, v)], [], [], []) else none
    | .pb d off =>
      if isLent d then some ([(n.t, v)], [], [], []) else
      match S.at d with
      | some ⟨true, .box cs⟩ => match normLeafs S dup n.t n.rows 0 cs with | some (vs, w, ds, fs) => some ([(n.t, .pb (boxId n.t) off)], (boxId n.t, ⟨true, .box vs⟩) :: w, d :: ds, fs) | none => none
      | _ => none
    | v => normOne n (normLeaf S dup n.t 0 (get n.rows 0) v)
theorem normI_eq (S : St) (dup : Nat → Bool) (n : NI) : normI S dup n = match S.slot n.t with | none => none | some v => normV S dup n v := by
  unfold normI
  rfl
def heldV (S : St) (v : PV) : List Nat :=
  match v with
  | .h d => [d]
  | .agg cs => heldP S cs
  | .pb d _ => (match S.at d with | some ⟨_, .box cs⟩ => heldP S cs | _ => [])
  | _ => []
theorem heldI_eq (S : St) (n : NI) : heldI S n = match S.slot n.t with | some v => heldV S v | none => [] := by
  unfold heldI heldV
  rcases S.slot n.t with _ | v
  · rfl
  · cases v <;> rfl
theorem plainLeaf_int (k : IntKind) (n : Int) : plainLeaf (PV.int k n) = true := rfl
theorem okLeaf_int (k : IntKind) (n : Int) : okLeaf (PV.int k n) = true := rfl
theorem leavesO_int (k : IntKind) (n : Int) : leavesO (PV.int k n) = some [(PV.int k n)] := rfl
theorem sharesP_int (k : IntKind) (n : Int) : sharesP (PV.int k n) = false := rfl
theorem sharesR_int (k : IntKind) (n : Int) : sharesR (PV.int k n) = false := rfl
theorem sharesLeaf_int (k : IntKind) (n : Int) : sharesLeaf (PV.int k n) = false := rfl
theorem shares_int (k : IntKind) (n : Int) : shares (PV.int k n) = false := rfl
theorem isPtr_int (k : IntKind) (n : Int) : isPtr (PV.int k n) = false := rfl
theorem impLeaf_int (k : IntKind) (n : Int) (fid j : Nat) : impLeaf fid j (PV.int k n) = ((PV.int k n), [], j) := rfl
theorem impV_int (k : IntKind) (n : Int) (fid j : Nat) : impV fid j (PV.int k n) = ((PV.int k n), [], j) := rfl
theorem impR_int (k : IntKind) (n : Int) (fid j : Nat) : impR fid j (PV.int k n) = ((PV.int k n), [], j) := rfl
theorem heldP_int (k : IntKind) (n : Int) (S : St) (r : List PV) : heldP S ((PV.int k n) :: r) = heldP S r := rfl
theorem plainLeaf_bool (b : Bool) : plainLeaf (PV.bool b) = true := rfl
theorem okLeaf_bool (b : Bool) : okLeaf (PV.bool b) = true := rfl
theorem leavesO_bool (b : Bool) : leavesO (PV.bool b) = some [(PV.bool b)] := rfl
theorem sharesP_bool (b : Bool) : sharesP (PV.bool b) = false := rfl
theorem sharesR_bool (b : Bool) : sharesR (PV.bool b) = false := rfl
theorem sharesLeaf_bool (b : Bool) : sharesLeaf (PV.bool b) = false := rfl
theorem shares_bool (b : Bool) : shares (PV.bool b) = false := rfl
theorem isPtr_bool (b : Bool) : isPtr (PV.bool b) = false := rfl
theorem impLeaf_bool (b : Bool) (fid j : Nat) : impLeaf fid j (PV.bool b) = ((PV.bool b), [], j) := rfl
theorem impV_bool (b : Bool) (fid j : Nat) : impV fid j (PV.bool b) = ((PV.bool b), [], j) := rfl
theorem impR_bool (b : Bool) (fid j : Nat) : impR fid j (PV.bool b) = ((PV.bool b), [], j) := rfl
theorem heldP_bool (b : Bool) (S : St) (r : List PV) : heldP S ((PV.bool b) :: r) = heldP S r := rfl
theorem plainLeaf_str (s : List UInt8) : plainLeaf (PV.str s) = true := rfl
theorem okLeaf_str (s : List UInt8) : okLeaf (PV.str s) = true := rfl
theorem leavesO_str (s : List UInt8) : leavesO (PV.str s) = some [(PV.str s)] := rfl
theorem sharesP_str (s : List UInt8) : sharesP (PV.str s) = false := rfl
theorem sharesR_str (s : List UInt8) : sharesR (PV.str s) = false := rfl
theorem sharesLeaf_str (s : List UInt8) : sharesLeaf (PV.str s) = false := rfl
theorem shares_str (s : List UInt8) : shares (PV.str s) = false := rfl
theorem isPtr_str (s : List UInt8) : isPtr (PV.str s) = false := rfl
theorem impLeaf_str (s : List UInt8) (fid j : Nat) : impLeaf fid j (PV.str s) = ((PV.str s), [], j) := rfl
theorem impV_str (s : List UInt8) (fid j : Nat) : impV fid j (PV.str s) = ((PV.str s), [], j) := rfl
theorem impR_str (s : List UInt8) (fid j : Nat) : impR fid j (PV.str s) = ((PV.str s), [], j) := rfl
theorem heldP_str (s : List UInt8) (S : St) (r : List PV) : heldP S ((PV.str s) :: r) = heldP S r := rfl
theorem plainLeaf_nils : plainLeaf (PV.nils) = true := rfl
theorem okLeaf_nils : okLeaf (PV.nils) = true := rfl
theorem leavesO_nils : leavesO (PV.nils) = some [(PV.nils)] := rfl
theorem sharesP_nils : sharesP (PV.nils) = false := rfl
theorem sharesR_nils : sharesR (PV.nils) = false := rfl
theorem sharesLeaf_nils : sharesLeaf (PV.nils) = false := rfl
theorem shares_nils : shares (PV.nils) = false := rfl
theorem isPtr_nils : isPtr (PV.nils) = false := rfl
theorem impLeaf_nils (fid j : Nat) : impLeaf fid j (PV.nils) = ((PV.nils), [], j) := rfl
theorem impV_nils (fid j : Nat) : impV fid j (PV.nils) = ((PV.nils), [], j) := rfl
theorem impR_nils (fid j : Nat) : impR fid j (PV.nils) = ((PV.nils), [], j) := rfl
theorem heldP_nils (S : St) (r : List PV) : heldP S ((PV.nils) :: r) = heldP S r := rfl
theorem plainLeaf_sl (sz : Nat) (xs : List (List PV)) : plainLeaf (PV.sl sz xs) = true := rfl
theorem okLeaf_sl (sz : Nat) (xs : List (List PV)) : okLeaf (PV.sl sz xs) = true := rfl
theorem leavesO_sl (sz : Nat) (xs : List (List PV)) : leavesO (PV.sl sz xs) = some [(PV.sl sz xs)] := rfl
theorem sharesP_sl (sz : Nat) (xs : List (List PV)) : sharesP (PV.sl sz xs) = true := rfl
theorem sharesR_sl (sz : Nat) (xs : List (List PV)) : sharesR (PV.sl sz xs) = true := rfl
theorem sharesLeaf_sl (sz : Nat) (xs : List (List PV)) : sharesLeaf (PV.sl sz xs) = true := rfl
theorem shares_sl (sz : Nat) (xs : List (List PV)) : shares (PV.sl sz xs) = true := rfl
theorem isPtr_sl (sz : Nat) (xs : List (List PV)) : isPtr (PV.sl sz xs) = false := rfl
theorem impLeaf_sl (sz : Nat) (xs : List (List PV)) (fid j : Nat) : impLeaf fid j (PV.sl sz xs) = ((PV.sl sz xs), [], j) := rfl
theorem impV_sl (sz : Nat) (xs : List (List PV)) (fid j : Nat) : impV fid j (PV.sl sz xs) = ((PV.sl sz xs), [], j) := rfl
theorem impR_sl (sz : Nat) (xs : List (List PV)) (fid j : Nat) : impR fid j (PV.sl sz xs) = ((PV.sl sz xs), [], j) := rfl
theorem heldP_sl (sz : Nat) (xs : List (List PV)) (S : St) (r : List PV) : heldP S ((PV.sl sz xs) :: r) = heldP S r := rfl
theorem plainLeaf_nilp : plainLeaf (PV.nilp) = true := rfl
theorem okLeaf_nilp : okLeaf (PV.nilp) = true := rfl
theorem leavesO_nilp : leavesO (PV.nilp) = some [(PV.nilp)] := rfl
theorem sharesP_nilp : sharesP (PV.nilp) = false := rfl
theorem sharesR_nilp : sharesR (PV.nilp) = false := rfl
theorem sharesLeaf_nilp : sharesLeaf (PV.nilp) = false := rfl
theorem shares_nilp : shares (PV.nilp) = false := rfl
theorem isPtr_nilp : isPtr (PV.nilp) = false := rfl
theorem impLeaf_nilp (fid j : Nat) : impLeaf fid j (PV.nilp) = ((PV.nilp), [], j) := rfl
theorem impV_nilp (fid j : Nat) : impV fid j (PV.nilp) = ((PV.nilp), [], j) := rfl
theorem impR_nilp (fid j : Nat) : impR fid j (PV.nilp) = ((PV.nilp), [], j) := rfl
theorem heldP_nilp (S : St) (r : List PV) : heldP S ((PV.nilp) :: r) = heldP S r := rfl
theorem plainLeaf_pc (cs : List PV) : plainLeaf (PV.pc cs) = true := rfl
theorem okLeaf_pc (cs : List PV) : okLeaf (PV.pc cs) = true := rfl
theorem leavesO_pc (cs : List PV) : leavesO (PV.pc cs) = some [(PV.pc cs)] := rfl
theorem sharesP_pc (cs : List PV) : sharesP (PV.pc cs) = true := rfl
theorem sharesR_pc (cs : List PV) : sharesR (PV.pc cs) = true := rfl
theorem sharesLeaf_pc (cs : List PV) : sharesLeaf (PV.pc cs) = true := rfl
theorem shares_pc (cs : List PV) : shares (PV.pc cs) = true := rfl
theorem isPtr_pc (cs : List PV) : isPtr (PV.pc cs) = true := rfl
theorem impLeaf_pc (cs : List PV) (fid j : Nat) : impLeaf fid j (PV.pc cs) = ((PV.pc cs), [], j) := rfl
theorem impV_pc (cs : List PV) (fid j : Nat) : impV fid j (PV.pc cs) = ((PV.pc cs), [], j) := rfl
theorem impR_pc (cs : List PV) (fid j : Nat) : impR fid j (PV.pc cs) = ((PV.pc cs), [], j) := rfl
theorem heldP_pc (cs : List PV) (S : St) (r : List PV) : heldP S ((PV.pc cs) :: r) = heldP S r := rfl
theorem plainLeaf_nilf : plainLeaf (PV.nilf) = true := rfl
theorem okLeaf_nilf : okLeaf (PV.nilf) = true := rfl
theorem leavesO_nilf : leavesO (PV.nilf) = some [(PV.nilf)] := rfl
theorem sharesP_nilf : sharesP (PV.nilf) = false := rfl
theorem sharesR_nilf : sharesR (PV.nilf) = false := rfl
theorem sharesLeaf_nilf : sharesLeaf (PV.nilf) = false := rfl
theorem shares_nilf : shares (PV.nilf) = false := rfl
theorem isPtr_nilf : isPtr (PV.nilf) = false := rfl
theorem impLeaf_nilf (fid j : Nat) : impLeaf fid j (PV.nilf) = ((PV.nilf), [], j) := rfl
theorem impV_nilf (fid j : Nat) : impV fid j (PV.nilf) = ((PV.nilf), [], j) := rfl
theorem impR_nilf (fid j : Nat) : impR fid j (PV.nilf) = ((PV.nilf), [], j) := rfl
theorem heldP_nilf (S : St) (r : List PV) : heldP S ((PV.nilf) :: r) = heldP S r := rfl
theorem plainLeaf_h (d : Nat) : plainLeaf (PV.h d) = false := rfl
theorem okLeaf_h (d : Nat) : okLeaf (PV.h d) = true := rfl
theorem leavesO_h (d : Nat) : leavesO (PV.h d) = some [(PV.h d)] := rfl
theorem sharesP_h (d : Nat) : sharesP (PV.h d) = false := rfl
theorem sharesR_h (d : Nat) : sharesR (PV.h d) = false := rfl
theorem sharesLeaf_h (d : Nat) : sharesLeaf (PV.h d) = false := rfl
theorem shares_h (d : Nat) : shares (PV.h d) = false := rfl
theorem isPtr_h (d : Nat) : isPtr (PV.h d) = false := rfl
theorem impLeaf_h (d : Nat) (fid j : Nat) : impLeaf fid j (PV.h d) = ((PV.h d), [], j) := rfl
theorem impV_h (d : Nat) (fid j : Nat) : impV fid j (PV.h d) = ((PV.h d), [], j) := rfl
theorem impR_h (d : Nat) (fid j : Nat) : impR fid j (PV.h d) = ((PV.h d), [], j) := rfl
theorem plainLeaf_pb (d : Nat) (off : Nat) : plainLeaf (PV.pb d off) = false := rfl
theorem okLeaf_pb (d : Nat) (off : Nat) : okLeaf (PV.pb d off) = true := rfl
theorem leavesO_pb (d : Nat) (off : Nat) : leavesO (PV.pb d off) = some [(PV.pb d off)] := rfl
theorem sharesP_pb (d : Nat) (off : Nat) : sharesP (PV.pb d off) = false := rfl
theorem sharesR_pb (d : Nat) (off : Nat) : sharesR (PV.pb d off) = false := rfl
theorem sharesLeaf_pb (d : Nat) (off : Nat) : sharesLeaf (PV.pb d off) = false := rfl
theorem shares_pb (d : Nat) (off : Nat) : shares (PV.pb d off) = false := rfl
theorem isPtr_pb (d : Nat) (off : Nat) : isPtr (PV.pb d off) = true := rfl
theorem impLeaf_pb (d : Nat) (off : Nat) (fid j : Nat) : impLeaf fid j (PV.pb d off) = ((PV.pb d off), [], j) := rfl
theorem impV_pb (d : Nat) (off : Nat) (fid j : Nat) : impV fid j (PV.pb d off) = ((PV.pb d off), [], j) := rfl
theorem impR_pb (d : Nat) (off : Nat) (fid j : Nat) : impR fid j (PV.pb d off) = ((PV.pb d off), [], j) := rfl
theorem heldP_pb (d : Nat) (off : Nat) (S : St) (r : List PV) : heldP S ((PV.pb d off) :: r) = heldP S r := rfl
theorem plainLeaf_pe (d : Nat) (i : Nat) (off : Nat) : plainLeaf (PV.pe d i off) = false := rfl
theorem okLeaf_pe (d : Nat) (i : Nat) (off : Nat) : okLeaf (PV.pe d i off) = true := rfl
theorem leavesO_pe (d : Nat) (i : Nat) (off : Nat) : leavesO (PV.pe d i off) = some [(PV.pe d i off)] := rfl
theorem sharesP_pe (d : Nat) (i : Nat) (off : Nat) : sharesP (PV.pe d i off) = false := rfl
theorem sharesR_pe (d : Nat) (i : Nat) (off : Nat) : sharesR (PV.pe d i off) = false := rfl
theorem sharesLeaf_pe (d : Nat) (i : Nat) (off : Nat) : sharesLeaf (PV.pe d i off) = false := rfl
theorem shares_pe (d : Nat) (i : Nat) (off : Nat) : shares (PV.pe d i off) = false := rfl
theorem isPtr_pe (d : Nat) (i : Nat) (off : Nat) : isPtr (PV.pe d i off) = true := rfl
theorem impLeaf_pe (d : Nat) (i : Nat) (off : Nat) (fid j : Nat) : impLeaf fid j (PV.pe d i off) = ((PV.pe d i off), [], j) := rfl
theorem impV_pe (d : Nat) (i : Nat) (off : Nat) (fid j : Nat) : impV fid j (PV.pe d i off) = ((PV.pe d i off), [], j) := rfl
theorem impR_pe (d : Nat) (i : Nat) (off : Nat) (fid j : Nat) : impR fid j (PV.pe d i off) = ((PV.pe d i off), [], j) := rfl
theorem heldP_pe (d : Nat) (i : Nat) (off : Nat) (S : St) (r : List PV) : heldP S ((PV.pe d i off) :: r) = heldP S r := rfl
theorem plainLeaf_undef : plainLeaf (PV.undef) = false := rfl
theorem okLeaf_undef : okLeaf (PV.undef) = false := rfl
theorem sharesP_undef : sharesP (PV.undef) = false := rfl
theorem sharesR_undef : sharesR (PV.undef) = false := rfl
theorem sharesLeaf_undef : sharesLeaf (PV.undef) = false := rfl
theorem shares_undef : shares (PV.undef) = false := rfl
theorem isPtr_undef : isPtr (PV.undef) = false := rfl
theorem impLeaf_undef (fid j : Nat) : impLeaf fid j (PV.undef) = ((PV.undef), [], j) := rfl
theorem impV_undef (fid j : Nat) : impV fid j (PV.undef) = ((PV.undef), [], j) := rfl
theorem impR_undef (fid j : Nat) : impR fid j (PV.undef) = ((PV.undef), [], j) := rfl
theorem heldP_undef (S : St) (r : List PV) : heldP S ((PV.undef) :: r) = heldP S r := rfl
theorem plainLeaf_fn (f : FuncId) (cs : List PV) : plainLeaf (PV.fn f cs) = false := rfl
theorem okLeaf_fn (f : FuncId) (cs : List PV) : okLeaf (PV.fn f cs) = false := rfl
theorem sharesP_fn (f : FuncId) (cs : List PV) : sharesP (PV.fn f cs) = true := rfl
theorem sharesR_fn (f : FuncId) (cs : List PV) : sharesR (PV.fn f cs) = true := rfl
theorem sharesLeaf_fn (f : FuncId) (cs : List PV) : sharesLeaf (PV.fn f cs) = true := rfl
theorem shares_fn (f : FuncId) (cs : List PV) : shares (PV.fn f cs) = true := rfl
theorem isPtr_fn (f : FuncId) (cs : List PV) : isPtr (PV.fn f cs) = false := rfl
theorem impLeaf_fn (f : FuncId) (cs : List PV) (fid j : Nat) : impLeaf fid j (PV.fn f cs) = ((PV.fn f cs), [], j) := rfl
theorem impV_fn (f : FuncId) (cs : List PV) (fid j : Nat) : impV fid j (PV.fn f cs) = ((PV.fn f cs), [], j) := rfl
theorem impR_fn (f : FuncId) (cs : List PV) (fid j : Nat) : impR fid j (PV.fn f cs) = ((PV.fn f cs), [], j) := rfl
theorem heldP_fn (f : FuncId) (cs : List PV) (S : St) (r : List PV) : heldP S ((PV.fn f cs) :: r) = heldP S r := rfl
theorem plainLeaf_agg (cs : List PV) : plainLeaf (PV.agg cs) = false := rfl
theorem okLeaf_agg (cs : List PV) : okLeaf (PV.agg cs) = false := rfl
theorem sharesP_agg (cs : List PV) : sharesP (PV.agg cs) = false := rfl
theorem sharesR_agg (cs : List PV) : sharesR (PV.agg cs) = false := rfl
theorem sharesLeaf_agg (cs : List PV) : sharesLeaf (PV.agg cs) = false := rfl
theorem isPtr_agg (cs : List PV) : isPtr (PV.agg cs) = false := rfl
theorem impLeaf_agg (cs : List PV) (fid j : Nat) : impLeaf fid j (PV.agg cs) = ((PV.agg cs), [], j) := rfl
theorem heldP_agg (cs : List PV) (S : St) (r : List PV) : heldP S ((PV.agg cs) :: r) = heldP S r := rfl
theorem plainLeaf_tup (vs : List PV) : plainLeaf (PV.tup vs) = false := rfl
theorem okLeaf_tup (vs : List PV) : okLeaf (PV.tup vs) = false := rfl
theorem sharesP_tup (vs : List PV) : sharesP (PV.tup vs) = false := rfl
theorem sharesR_tup (vs : List PV) : sharesR (PV.tup vs) = false := rfl
theorem sharesLeaf_tup (vs : List PV) : sharesLeaf (PV.tup vs) = false := rfl
theorem isPtr_tup (vs : List PV) : isPtr (PV.tup vs) = false := rfl
theorem impLeaf_tup (vs : List PV) (fid j : Nat) : impLeaf fid j (PV.tup vs) = ((PV.tup vs), [], j) := rfl
theorem impV_tup (vs : List PV) (fid j : Nat) : impV fid j (PV.tup vs) = ((PV.tup vs), [], j) := rfl
theorem heldP_tup (vs : List PV) (S : St) (r : List PV) : heldP S ((PV.tup vs) :: r) = heldP S r := rfl
theorem plainLeaf_nr (e : TypeId) (sz : Nat) (xs : List (List PV)) : plainLeaf (PV.nr e sz xs) = false := rfl
theorem okLeaf_nr (e : TypeId) (sz : Nat) (xs : List (List PV)) : okLeaf (PV.nr e sz xs) = false := rfl
theorem sharesP_nr (e : TypeId) (sz : Nat) (xs : List (List PV)) : sharesP (PV.nr e sz xs) = true := rfl
theorem isPtr_nr (e : TypeId) (sz : Nat) (xs : List (List PV)) : isPtr (PV.nr e sz xs) = false := rfl
theorem heldP_nr (e : TypeId) (sz : Nat) (xs : List (List PV)) (S : St) (r : List PV) : heldP S ((PV.nr e sz xs) :: r) = heldP S r := rfl
theorem plainLeaf_nb (cs : List PV) : plainLeaf (PV.nb cs) = false := rfl
theorem okLeaf_nb (cs : List PV) : okLeaf (PV.nb cs) = false := rfl
theorem sharesP_nb (cs : List PV) : sharesP (PV.nb cs) = true := rfl
theorem sharesR_nb (cs : List PV) : sharesR (PV.nb cs) = true := rfl
theorem isPtr_nb (cs : List PV) : isPtr (PV.nb cs) = false := rfl
theorem impLeaf_nb (cs : List PV) (fid j : Nat) : impLeaf fid j (PV.nb cs) = ((PV.nb cs), [], j) := rfl
theorem heldP_nb (cs : List PV) (S : St) (r : List PV) : heldP S ((PV.nb cs) :: r) = heldP S r := rfl
theorem sealLeaf_int (k : IntKind) (n : Int) : sealLeaf (PV.int k n) = .ret ((PV.int k n), []) := rfl
theorem sealV_int (k : IntKind) (n : Int) : sealV (PV.int k n) = .ret ((PV.int k n), []) := rfl
theorem expLeaf_int (k : IntKind) (n : Int) (S : St) (u : List Nat) : expLeaf S u (PV.int k n) = some ((PV.int k n), u) := rfl
theorem expV_int (k : IntKind) (n : Int) (S : St) (u : List Nat) : expV S u (PV.int k n) = some ((PV.int k n), u) := rfl
theorem normLeaf_int (k : IntKind) (n : Int) (S : St) (dup : Nat → Bool) (t j : Nat) (row : Option (TypeId × Nat)) : normLeaf S dup t j row (PV.int k n) = some ((PV.int k n), [], [], []) := rfl
theorem normV_int (k : IntKind) (n : Int) (S : St) (dup : Nat → Bool) (ni : NI) : normV S dup ni (PV.int k n) = normOne ni (normLeaf S dup ni.t 0 (get ni.rows 0) (PV.int k n)) := rfl
theorem heldV_int (k : IntKind) (n : Int) (S : St) : heldV S (PV.int k n) = [] := rfl
theorem lendA_int (k : IntKind) (n : Int) (r : List PV) (bs : List (Nat × List PV)) : lendA ((PV.int k n) :: r) bs = (lendA r bs).bind fun y => .ret ((PV.int k n) :: y.1, y.2.1, y.2.2) := rfl
theorem sealLeaf_bool (b : Bool) : sealLeaf (PV.bool b) = .ret ((PV.bool b), []) := rfl
theorem sealV_bool (b : Bool) : sealV (PV.bool b) = .ret ((PV.bool b), []) := rfl
theorem expLeaf_bool (b : Bool) (S : St) (u : List Nat) : expLeaf S u (PV.bool b) = some ((PV.bool b), u) := rfl
theorem expV_bool (b : Bool) (S : St) (u : List Nat) : expV S u (PV.bool b) = some ((PV.bool b), u) := rfl
theorem normLeaf_bool (b : Bool) (S : St) (dup : Nat → Bool) (t j : Nat) (row : Option (TypeId × Nat)) : normLeaf S dup t j row (PV.bool b) = some ((PV.bool b), [], [], []) := rfl
theorem normV_bool (b : Bool) (S : St) (dup : Nat → Bool) (ni : NI) : normV S dup ni (PV.bool b) = normOne ni (normLeaf S dup ni.t 0 (get ni.rows 0) (PV.bool b)) := rfl
theorem heldV_bool (b : Bool) (S : St) : heldV S (PV.bool b) = [] := rfl
theorem lendA_bool (b : Bool) (r : List PV) (bs : List (Nat × List PV)) : lendA ((PV.bool b) :: r) bs = (lendA r bs).bind fun y => .ret ((PV.bool b) :: y.1, y.2.1, y.2.2) := rfl
theorem sealLeaf_str (s : List UInt8) : sealLeaf (PV.str s) = .ret ((PV.str s), []) := rfl
theorem sealV_str (s : List UInt8) : sealV (PV.str s) = .ret ((PV.str s), []) := rfl
theorem expLeaf_str (s : List UInt8) (S : St) (u : List Nat) : expLeaf S u (PV.str s) = some ((PV.str s), u) := rfl
theorem expV_str (s : List UInt8) (S : St) (u : List Nat) : expV S u (PV.str s) = some ((PV.str s), u) := rfl
theorem normLeaf_str (s : List UInt8) (S : St) (dup : Nat → Bool) (t j : Nat) (row : Option (TypeId × Nat)) : normLeaf S dup t j row (PV.str s) = some ((PV.str s), [], [], []) := rfl
theorem normV_str (s : List UInt8) (S : St) (dup : Nat → Bool) (ni : NI) : normV S dup ni (PV.str s) = normOne ni (normLeaf S dup ni.t 0 (get ni.rows 0) (PV.str s)) := rfl
theorem heldV_str (s : List UInt8) (S : St) : heldV S (PV.str s) = [] := rfl
theorem lendA_str (s : List UInt8) (r : List PV) (bs : List (Nat × List PV)) : lendA ((PV.str s) :: r) bs = (lendA r bs).bind fun y => .ret ((PV.str s) :: y.1, y.2.1, y.2.2) := rfl
theorem sealLeaf_nils : sealLeaf (PV.nils) = .ret ((PV.nils), []) := rfl
theorem sealV_nils : sealV (PV.nils) = .ret ((PV.nils), []) := rfl
theorem expLeaf_nils (S : St) (u : List Nat) : expLeaf S u (PV.nils) = some ((PV.nils), u) := rfl
theorem expV_nils (S : St) (u : List Nat) : expV S u (PV.nils) = some ((PV.nils), u) := rfl
theorem normLeaf_nils (S : St) (dup : Nat → Bool) (t j : Nat) : normLeaf S dup t j none (PV.nils) = some ((PV.nils), [], [], []) := rfl
theorem normV_nils (S : St) (dup : Nat → Bool) (ni : NI) : normV S dup ni (PV.nils) = normOne ni (normLeaf S dup ni.t 0 (get ni.rows 0) (PV.nils)) := rfl
theorem heldV_nils (S : St) : heldV S (PV.nils) = [] := rfl
theorem lendA_nils (r : List PV) (bs : List (Nat × List PV)) : lendA ((PV.nils) :: r) bs = (lendA r bs).bind fun y => .ret ((PV.nils) :: y.1, y.2.1, y.2.2) := rfl
theorem sealLeaf_sl (sz : Nat) (xs : List (List PV)) : sealLeaf (PV.sl sz xs) = .ret ((PV.sl sz xs), []) := rfl
theorem sealV_sl (sz : Nat) (xs : List (List PV)) : sealV (PV.sl sz xs) = .ret ((PV.sl sz xs), []) := rfl
theorem expLeaf_sl (sz : Nat) (xs : List (List PV)) (S : St) (u : List Nat) : expLeaf S u (PV.sl sz xs) = some ((PV.sl sz xs), u) := rfl
theorem expV_sl (sz : Nat) (xs : List (List PV)) (S : St) (u : List Nat) : expV S u (PV.sl sz xs) = some ((PV.sl sz xs), u) := rfl
theorem normLeaf_sl (sz : Nat) (xs : List (List PV)) (S : St) (dup : Nat → Bool) (t j : Nat) (row : Option (TypeId × Nat)) : normLeaf S dup t j row (PV.sl sz xs) = some ((PV.sl sz xs), [], [], []) := rfl
theorem normV_sl (sz : Nat) (xs : List (List PV)) (S : St) (dup : Nat → Bool) (ni : NI) : normV S dup ni (PV.sl sz xs) = normOne ni (normLeaf S dup ni.t 0 (get ni.rows 0) (PV.sl sz xs)) := rfl
theorem heldV_sl (sz : Nat) (xs : List (List PV)) (S : St) : heldV S (PV.sl sz xs) = [] := rfl
theorem lendA_sl (sz : Nat) (xs : List (List PV)) (r : List PV) (bs : List (Nat × List PV)) : lendA ((PV.sl sz xs) :: r) bs = (lendA r bs).bind fun y => .ret ((PV.sl sz xs) :: y.1, y.2.1, y.2.2) := rfl
theorem sealLeaf_nilp : sealLeaf (PV.nilp) = .ret ((PV.nilp), []) := rfl
theorem sealV_nilp : sealV (PV.nilp) = .ret ((PV.nilp), []) := rfl
theorem expLeaf_nilp (S : St) (u : List Nat) : expLeaf S u (PV.nilp) = some ((PV.nilp), u) := rfl
theorem expV_nilp (S : St) (u : List Nat) : expV S u (PV.nilp) = some ((PV.nilp), u) := rfl
theorem normLeaf_nilp (S : St) (dup : Nat → Bool) (t j : Nat) (row : Option (TypeId × Nat)) : normLeaf S dup t j row (PV.nilp) = some ((PV.nilp), [], [], []) := rfl
theorem normV_nilp (S : St) (dup : Nat → Bool) (ni : NI) : normV S dup ni (PV.nilp) = normOne ni (normLeaf S dup ni.t 0 (get ni.rows 0) (PV.nilp)) := rfl
theorem heldV_nilp (S : St) : heldV S (PV.nilp) = [] := rfl
theorem lendA_nilp (r : List PV) (bs : List (Nat × List PV)) : lendA ((PV.nilp) :: r) bs = (lendA r bs).bind fun y => .ret ((PV.nilp) :: y.1, y.2.1, y.2.2) := rfl
theorem sealLeaf_pc (cs : List PV) : sealLeaf (PV.pc cs) = .ret ((PV.pc cs), []) := rfl
theorem sealV_pc (cs : List PV) : sealV (PV.pc cs) = .ret ((PV.pc cs), []) := rfl
theorem expLeaf_pc (cs : List PV) (S : St) (u : List Nat) : expLeaf S u (PV.pc cs) = some ((PV.pc cs), u) := rfl
theorem expV_pc (cs : List PV) (S : St) (u : List Nat) : expV S u (PV.pc cs) = some ((PV.pc cs), u) := rfl
theorem normLeaf_pc (cs : List PV) (S : St) (dup : Nat → Bool) (t j : Nat) (row : Option (TypeId × Nat)) : normLeaf S dup t j row (PV.pc cs) = some ((PV.pc cs), [], [], []) := rfl
theorem normV_pc (cs : List PV) (S : St) (dup : Nat → Bool) (ni : NI) : normV S dup ni (PV.pc cs) = normOne ni (normLeaf S dup ni.t 0 (get ni.rows 0) (PV.pc cs)) := rfl
theorem heldV_pc (cs : List PV) (S : St) : heldV S (PV.pc cs) = [] := rfl
theorem lendA_pc (cs : List PV) (r : List PV) (bs : List (Nat × List PV)) : lendA ((PV.pc cs) :: r) bs = (lendA r bs).bind fun y => .ret ((PV.pc cs) :: y.1, y.2.1, y.2.2) := rfl
theorem sealLeaf_nilf : sealLeaf (PV.nilf) = .ret ((PV.nilf), []) := rfl
theorem sealV_nilf : sealV (PV.nilf) = .ret ((PV.nilf), []) := rfl
theorem expLeaf_nilf (S : St) (u : List Nat) : expLeaf S u (PV.nilf) = some ((PV.nilf), u) := rfl
theorem expV_nilf (S : St) (u : List Nat) : expV S u (PV.nilf) = some ((PV.nilf), u) := rfl
theorem normLeaf_nilf (S : St) (dup : Nat → Bool) (t j : Nat) (row : Option (TypeId × Nat)) : normLeaf S dup t j row (PV.nilf) = some ((PV.nilf), [], [], []) := rfl
theorem normV_nilf (S : St) (dup : Nat → Bool) (ni : NI) : normV S dup ni (PV.nilf) = normOne ni (normLeaf S dup ni.t 0 (get ni.rows 0) (PV.nilf)) := rfl
theorem heldV_nilf (S : St) : heldV S (PV.nilf) = [] := rfl
theorem lendA_nilf (r : List PV) (bs : List (Nat × List PV)) : lendA ((PV.nilf) :: r) bs = (lendA r bs).bind fun y => .ret ((PV.nilf) :: y.1, y.2.1, y.2.2) := rfl
theorem leavesO_agg (cs : List PV) : leavesO (.agg cs) = some cs := rfl
theorem sharesR_nr (e : TypeId) (sz : Nat) (xs : List (List PV)) : sharesR (.nr e sz xs) = xs.any fun x => x.any sharesP := rfl
theorem sharesLeaf_nr (e : TypeId) (sz : Nat) (xs : List (List PV)) : sharesLeaf (.nr e sz xs) = xs.any fun x => x.any sharesP := rfl
theorem sharesLeaf_nb (cs : List PV) : sharesLeaf (.nb cs) = cs.any sharesR := rfl
theorem shares_nr (e : TypeId) (sz : Nat) (xs : List (List PV)) : shares (.nr e sz xs) = xs.any fun x => x.any sharesP := rfl
theorem shares_nb (cs : List PV) : shares (.nb cs) = cs.any sharesR := rfl
theorem shares_agg (cs : List PV) : shares (.agg cs) = cs.any sharesLeaf := rfl
def sharesE : PV → Bool
  | .agg cs => cs.any sharesLeaf
  | v => sharesLeaf v
theorem shares_tup (vs : List PV) : shares (.tup vs) = vs.any sharesE := by
  show (vs.any fun | .agg cs => cs.any sharesLeaf | v => sharesLeaf v) = _
  congr 1
theorem impLeaf_nr (e : TypeId) (sz : Nat) (xs : List (List PV)) (fid j : Nat) : impLeaf fid j (.nr e sz xs) = (.h (fid + j), [(fid + j, .set (.row e sz xs))], j + 1) := rfl
theorem impV_nr (e : TypeId) (sz : Nat) (xs : List (List PV)) (fid j : Nat) : impV fid j (.nr e sz xs) = (.h (fid + j), [(fid + j, .set (.row e sz xs))], j + 1) := rfl
theorem impR_nr (e : TypeId) (sz : Nat) (xs : List (List PV)) (fid j : Nat) : impR fid j (.nr e sz xs) = (.h (fid + j), [(fid + j, .set (.row e sz xs))], j + 1) := rfl
theorem impV_agg (cs : List PV) (fid j : Nat) : impV fid j (.agg cs) = (match impL fid j cs with | (xs, w, j1) => (.agg xs, w, j1)) := rfl
theorem impR_agg (cs : List PV) (fid j : Nat) : impR fid j (.agg cs) = (match impL fid j cs with | (xs, w, j1) => (.agg xs, w, j1)) := rfl
theorem impV_nb (cs : List PV) (fid j : Nat) : impV fid j (.nb cs) = (match impL fid (j + 1) cs with | (xs, w, j1) => (.pb (fid + j) 0, (fid + j, .set (.box xs)) :: w, j1)) := rfl
theorem impR_nb (cs : List PV) (fid j : Nat) : impR fid j (.nb cs) = (match impL fid (j + 1) cs with | (xs, w, j1) => (.pb (fid + j) 0, (fid + j, .set (.box xs)) :: w, j1)) := rfl
theorem impR_tup (vs : List PV) (fid j : Nat) : impR fid j (.tup vs) = (match impVs fid j vs with | (xs, w, j1) => (.tup xs, w, j1)) := rfl
theorem sealLeaf_h (d : Nat) : sealLeaf (.h d) = .rdc d fun | .row _ sz xs => .ret (.sl sz xs, [(d, .fz)]) | _ => .fail := rfl
theorem sealLeaf_pb (d off : Nat) : sealLeaf (.pb d off) = .rdc d fun | .box cs => if cs.all plainLeaf then .ret (.pc (cs.drop off), [(d, .fz)]) else .fail | _ => .fail := rfl
theorem sealV_h (d : Nat) : sealV (.h d) = .rdc d fun | .row _ sz xs => .ret (.sl sz xs, [(d, .fz)]) | _ => .fail := rfl
theorem sealV_pb (d off : Nat) : sealV (.pb d off) = .rdc d fun | .box cs => if cs.all plainLeaf then .ret (.pc (cs.drop off), [(d, .fz)]) else .fail | _ => .fail := rfl
theorem sealV_agg (cs : List PV) : sealV (.agg cs) = (sealL cs).bind fun x => .ret (.agg x.1, x.2) := rfl
theorem sealV_fn (f : FuncId) (cs : List PV) : sealV (.fn f cs) = (sealL cs).bind fun x => .ret (.fn f x.1, x.2) := rfl
theorem lendA_nil (bs : List (Nat × List PV)) : lendA [] bs = .ret ([], [], [], bs) := rfl
theorem lendA_h (d : Nat) (r : List PV) (bs : List (Nat × List PV)) : lendA (.h d :: r) bs = (sealV (.h d)).bind fun x => (lendA r bs).bind fun y => .ret (x.1 :: y.1, x.2 ++ y.2.1, y.2.2) := rfl
theorem lendA_agg (cs : List PV) (r : List PV) (bs : List (Nat × List PV)) : lendA (.agg cs :: r) bs = (sealV (.agg cs)).bind fun x => (lendA r bs).bind fun y => .ret (x.1 :: y.1, x.2 ++ y.2.1, y.2.2) := rfl
theorem lendA_fn (f : FuncId) (cs : List PV) (r : List PV) (bs : List (Nat × List PV)) : lendA (.fn f cs :: r) bs = (sealV (.fn f cs)).bind fun x => (lendA r bs).bind fun y => .ret (x.1 :: y.1, x.2 ++ y.2.1, y.2.2) := rfl
theorem lendA_pb (d : Nat) (r : List PV) (bs : List (Nat × List PV)) : lendA (.pb d 0 :: r) bs = .own d fun
      | .box cs =>
        if bs.any fun b => b.1 == d then .fail else
        (sealL cs).bind fun x => (lendA r (bs ++ [(d, x.1)])).bind fun y => .ret (.pb (lentId bs.length) 0 :: y.1, y.2.1, x.2 ++ y.2.2.1, y.2.2.2)
      | _ => .fail := rfl
theorem expLeaf_h (S : St) (u : List Nat) (d : Nat) : expLeaf S u (.h d) = (match S.at d with
    | some ⟨true, .row e sz xs⟩ => if u.any (· == d) then none else some (.nr e sz xs, d :: u)
    | some ⟨false, .row _ sz xs⟩ => some (.sl sz xs, u)
    | _ => none) := rfl
theorem expV_h (S : St) (u : List Nat) (d : Nat) : expV S u (.h d) = expLeaf S u (.h d) := rfl
theorem expV_agg (S : St) (u : List Nat) (cs : List PV) : expV S u (.agg cs) = (match expL S u cs with | some (xs, u) => some (.agg xs, u) | none => none) := rfl
theorem expV_fn (S : St) (u : List Nat) (f : FuncId) (cs : List PV) : expV S u (.fn f cs) = if cs.all plainLeaf then some (.fn f cs, u) else none := rfl
theorem expV_pb (S : St) (u : List Nat) (d off : Nat) : expV S u (.pb d off) = (match S.at d with
    | some ⟨true, .box cs⟩ =>
      if off == 0 && !isLent d && !(u.any (· == d)) then (match expL S (d :: u) cs with | some (xs, u) => some (.nb xs, u) | none => none) else none
    | _ => none) := rfl
theorem normLeaf_h (S : St) (dup : Nat → Bool) (t j : Nat) (row : Option (TypeId × Nat)) (d : Nat) : normLeaf S dup t j row (.h d) = (match S.at d with
    | some ⟨true, .row e sz xs⟩ => if dup d then some (.sl sz xs, [], [], [d]) else some (.h (leafId t j), [(leafId t j, ⟨true, .row e sz xs⟩)], [d], [])
    | some ⟨false, .row _ sz xs⟩ => some (.sl sz xs, [], [], [])
    | _ => none) := by rcases row with _ | ⟨e, sz⟩ <;> rfl
theorem normLeaf_nils_row (S : St) (dup : Nat → Bool) (t j : Nat) (e : TypeId) (sz : Nat) : normLeaf S dup t j (some (e, sz)) .nils = some (.h (leafId t j), [(leafId t j, ⟨true, .row e sz []⟩)], [], []) := rfl
theorem normV_h (S : St) (dup : Nat → Bool) (n : NI) (d : Nat) : normV S dup n (.h d) = normOne n (normLeaf S dup n.t 0 (get n.rows 0) (.h d)) := rfl
theorem normV_agg (S : St) (dup : Nat → Bool) (n : NI) (cs : List PV) : normV S dup n (.agg cs) = (match normLeafs S dup n.t n.rows 0 cs with | some (vs, w, ds, fs) => some ([(n.t, .agg vs)], w, ds, fs) | none => none) := rfl
theorem normV_fn (S : St) (dup : Nat → Bool) (n : NI) (f : FuncId) (cs : List PV) : normV S dup n (.fn f cs) = if cs.all plainLeaf then some ([(n.t, .fn f cs)], [], [], []) else none := rfl
theorem normV_pb (S : St) (dup : Nat → Bool) (n : NI) (d off : Nat) : normV S dup n (.pb d off) = (if isLent d then some ([(n.t, .pb d off)], [], [], []) else
      match S.at d with
      | some ⟨true, .box cs⟩ => match normLeafs S dup n.t n.rows 0 cs with | some (vs, w, ds, fs) => some ([(n.t, .pb (boxId n.t) off)], (boxId n.t, ⟨true, .box vs⟩) :: w, d :: ds, fs) | none => none
      | _ => none) := rfl
theorem heldV_h (S : St) (d : Nat) : heldV S (.h d) = [d] := rfl
theorem heldV_agg (S : St) (cs : List PV) : heldV S (.agg cs) = heldP S cs := rfl
theorem heldV_fn (S : St) (f : FuncId) (cs : List PV) : heldV S (.fn f cs) = [] := rfl
theorem heldV_pb (S : St) (d off : Nat) : heldV S (.pb d off) = (match S.at d with | some ⟨_, .box cs⟩ => heldP S cs | _ => []) := rfl
theorem heldP_h (S : St) (d : Nat) (r : List PV) : heldP S (.h d :: r) = d :: heldP S r := rfl
theorem heldP_nil (S : St) : heldP S [] = [] := rfl
theorem lenOf_nils : lenOf .nils = .ret 0 := rfl
theorem lenOf_sl (sz : Nat) (xs : List (List PV)) : lenOf (.sl sz xs) = .ret xs.length := rfl
theorem lenOf_h (d : Nat) : lenOf (.h d) = .rdc d fun | .row _ _ xs => .ret xs.length | _ => .fail := rfl
theorem elemsOf_nils (n : Nat) : elemsOf n .nils = .ret [] := rfl
theorem elemsOf_sl (n sz : Nat) (xs : List (List PV)) : elemsOf n (.sl sz xs) = if sz == n then .ret xs else .fail := rfl
theorem elemsOf_h (n d : Nat) : elemsOf n (.h d) = .rdc d fun | .row _ sz xs => if sz == n then .ret xs else .fail | _ => .fail := rfl
attribute [go_sem] plainLeaf_int okLeaf_int leavesO_int sharesP_int sharesR_int sharesLeaf_int shares_int isPtr_int impLeaf_int impV_int impR_int heldP_int
attribute [go_sem] plainLeaf_bool okLeaf_bool leavesO_bool sharesP_bool sharesR_bool sharesLeaf_bool shares_bool isPtr_bool impLeaf_bool impV_bool impR_bool heldP_bool
attribute [go_sem] plainLeaf_str okLeaf_str leavesO_str sharesP_str sharesR_str sharesLeaf_str shares_str isPtr_str impLeaf_str impV_str impR_str heldP_str
attribute [go_sem] plainLeaf_nils okLeaf_nils leavesO_nils sharesP_nils sharesR_nils sharesLeaf_nils shares_nils isPtr_nils impLeaf_nils impV_nils impR_nils heldP_nils
attribute [go_sem] plainLeaf_sl okLeaf_sl leavesO_sl sharesP_sl sharesR_sl sharesLeaf_sl shares_sl isPtr_sl impLeaf_sl impV_sl impR_sl heldP_sl
attribute [go_sem] plainLeaf_nilp okLeaf_nilp leavesO_nilp sharesP_nilp sharesR_nilp sharesLeaf_nilp shares_nilp isPtr_nilp impLeaf_nilp impV_nilp impR_nilp heldP_nilp
attribute [go_sem] plainLeaf_pc okLeaf_pc leavesO_pc sharesP_pc sharesR_pc sharesLeaf_pc shares_pc isPtr_pc impLeaf_pc impV_pc impR_pc heldP_pc
attribute [go_sem] plainLeaf_nilf okLeaf_nilf leavesO_nilf sharesP_nilf sharesR_nilf sharesLeaf_nilf shares_nilf isPtr_nilf impLeaf_nilf impV_nilf impR_nilf heldP_nilf
attribute [go_sem] plainLeaf_h okLeaf_h leavesO_h sharesP_h sharesR_h sharesLeaf_h shares_h isPtr_h impLeaf_h impV_h impR_h plainLeaf_pb
attribute [go_sem] okLeaf_pb leavesO_pb sharesP_pb sharesR_pb sharesLeaf_pb shares_pb isPtr_pb impLeaf_pb impV_pb impR_pb heldP_pb plainLeaf_pe
attribute [go_sem] okLeaf_pe leavesO_pe sharesP_pe sharesR_pe sharesLeaf_pe shares_pe isPtr_pe impLeaf_pe impV_pe impR_pe heldP_pe plainLeaf_undef
attribute [go_sem] okLeaf_undef sharesP_undef sharesR_undef sharesLeaf_undef shares_undef isPtr_undef impLeaf_undef impV_undef impR_undef heldP_undef plainLeaf_fn okLeaf_fn
attribute [go_sem] sharesP_fn sharesR_fn sharesLeaf_fn shares_fn isPtr_fn impLeaf_fn impV_fn impR_fn heldP_fn plainLeaf_agg okLeaf_agg sharesP_agg
attribute [go_sem] sharesR_agg sharesLeaf_agg isPtr_agg impLeaf_agg heldP_agg plainLeaf_tup okLeaf_tup sharesP_tup sharesR_tup sharesLeaf_tup isPtr_tup impLeaf_tup
attribute [go_sem] impV_tup heldP_tup plainLeaf_nr okLeaf_nr sharesP_nr isPtr_nr heldP_nr plainLeaf_nb okLeaf_nb sharesP_nb sharesR_nb isPtr_nb
attribute [go_sem] impLeaf_nb heldP_nb sealLeaf_int sealV_int expLeaf_int expV_int normLeaf_int normV_int heldV_int lendA_int sealLeaf_bool sealV_bool
attribute [go_sem] expLeaf_bool expV_bool normLeaf_bool normV_bool heldV_bool lendA_bool sealLeaf_str sealV_str expLeaf_str expV_str normLeaf_str normV_str
attribute [go_sem] heldV_str lendA_str sealLeaf_nils sealV_nils expLeaf_nils expV_nils normLeaf_nils normV_nils heldV_nils lendA_nils sealLeaf_sl sealV_sl
attribute [go_sem] expLeaf_sl expV_sl normLeaf_sl normV_sl heldV_sl lendA_sl sealLeaf_nilp sealV_nilp expLeaf_nilp expV_nilp normLeaf_nilp normV_nilp
attribute [go_sem] heldV_nilp lendA_nilp sealLeaf_pc sealV_pc expLeaf_pc expV_pc normLeaf_pc normV_pc heldV_pc lendA_pc sealLeaf_nilf sealV_nilf
attribute [go_sem] expLeaf_nilf expV_nilf normLeaf_nilf normV_nilf heldV_nilf lendA_nilf normI_eq heldI_eq normOne leavesO_agg sharesR_nr sharesLeaf_nr
attribute [go_sem] sharesLeaf_nb shares_nr shares_nb shares_agg shares_tup sharesE impLeaf_nr impV_nr impR_nr impV_agg impR_agg impV_nb
attribute [go_sem] impR_nb impR_tup sealLeaf_h sealLeaf_pb sealV_h sealV_pb sealV_agg sealV_fn lendA_nil lendA_h lendA_agg lendA_fn
attribute [go_sem] lendA_pb expLeaf_h expV_h expV_agg expV_fn expV_pb normLeaf_h normLeaf_nils_row normV_h normV_agg normV_fn normV_pb
attribute [go_sem] heldV_h heldV_agg heldV_fn heldV_pb heldP_h heldP_nil lenOf_nils lenOf_sl lenOf_h elemsOf_nils elemsOf_sl elemsOf_h

/-! ### bytes, or none -/
def bl : Option (List Int) → PV
  | none => .nils
  | some zs => .sl 1 (ints .u8 zs)
def bz (o : Option (List Int)) : List Int := o.getD []
theorem bz_none : bz none = [] := rfl
theorem bz_some (zs : List Int) : bz (some zs) = zs := rfl
variable (o : Option (List Int))
theorem plainLeaf_bl : plainLeaf (bl o) = true := by cases o <;> rfl
theorem okLeaf_bl : okLeaf (bl o) = true := by cases o <;> rfl
theorem leavesO_bl : leavesO (bl o) = some [bl o] := by cases o <;> rfl
theorem sealLeaf_bl : sealLeaf (bl o) = .ret (bl o, []) := by cases o <;> rfl
theorem sealV_bl : sealV (bl o) = .ret (bl o, []) := by cases o <;> rfl
theorem expLeaf_bl (S : St) (u : List Nat) : expLeaf S u (bl o) = some (bl o, u) := by cases o <;> rfl
theorem expV_bl (S : St) (u : List Nat) : expV S u (bl o) = some (bl o, u) := by cases o <;> rfl
theorem normLeaf_bl (S : St) (dup : Nat → Bool) (t j : Nat) : normLeaf S dup t j none (bl o) = some (bl o, [], [], []) := by cases o <;> rfl
theorem normV_bl (S : St) (dup : Nat → Bool) (n : NI) : normV S dup n (bl o) = normOne n (normLeaf S dup n.t 0 (get n.rows 0) (bl o)) := by cases o <;> rfl
theorem heldV_bl (S : St) : heldV S (bl o) = [] := by cases o <;> rfl
theorem heldP_bl (S : St) (r : List PV) : heldP S (bl o :: r) = heldP S r := by cases o <;> rfl
theorem lendA_bl (r : List PV) (bs : List (Nat × List PV)) : lendA (bl o :: r) bs = (lendA r bs).bind fun y => .ret (bl o :: y.1, y.2.1, y.2.2) := by cases o <;> rfl
theorem impLeaf_bl (fid j : Nat) : impLeaf fid j (bl o) = (bl o, [], j) := by cases o <;> rfl
theorem impV_bl (fid j : Nat) : impV fid j (bl o) = (bl o, [], j) := by cases o <;> rfl
theorem impR_bl (fid j : Nat) : impR fid j (bl o) = (bl o, [], j) := by cases o <;> rfl
theorem lenOf_bl : lenOf (bl o) = .ret (bz o).length := by cases o with | none => rfl | some zs => simp [bl, lenOf, bz, ints_length]
theorem elemsOf_bl : elemsOf 1 (bl o) = .ret (ints .u8 (bz o)) := by cases o <;> rfl
theorem bytesP_bl : bytesP (bl o) = some ((bz o).map toU8) := by cases o with | none => rfl | some zs => exact toBytes_ints zs
theorem cloneF_bl (e : TypeId) (h : (bz o).length ≤ 1000000000000) : cloneF e 1 1 [bl o] = some (.nr e 1 (ints .u8 (bz o))) := by
  cases o with
  | none => rfl
  | some zs => exact cloneF_sl e 1 zs (by simp only [bz_some] at h; omega)
theorem bl_sl (zs : List Int) : PV.sl 1 (ints .u8 zs) = bl (some zs) := rfl
attribute [go_sem] plainLeaf_bl okLeaf_bl leavesO_bl sealLeaf_bl sealV_bl expLeaf_bl expV_bl normLeaf_bl normV_bl heldV_bl heldP_bl lendA_bl impLeaf_bl impV_bl impR_bl lenOf_bl elemsOf_bl bytesP_bl bz_none bz_some
/-! ### frozen, if the result shares -/
def fzIf (c : Bool) (d : Nat) (m : List (Nat × Option Ent)) : List (Nat × Option Ent) := if c = true then putM m d .fz else m
theorem get_fzIf (c : Bool) (d : Nat) (m : List (Nat × Option Ent)) (k : Nat) : get (fzIf c d m) k = if k = d then (match get m d with | some (some e) => some (some ⟨e.own && !c, e.c⟩) | r => r) else get m k := by
  cases c
  · simp only [fzIf, Bool.false_eq_true, if_false, Bool.not_false, Bool.and_true]
    split
    · rename_i h
      subst h
      split
      · rename_i e he; exact he
      · rfl
    · rfl
  · simp only [fzIf, if_true, putM, atM, Bool.not_true, Bool.and_false]
    cases hg : get m d with
    | none =>
      simp only []
      split
      · rename_i h; subst h; exact hg
      · rfl
    | some e =>
      cases e with
      | none =>
        simp only []
        split
        · rename_i h; subst h; exact hg
        · rfl
      | some e =>
        simp only [get]
        by_cases h : k = d
        · subst h; simp
        · have : (d == k) = false := by simp; exact fun he => h he.symm
          simp [this, h]
theorem putMs_if (m : List (Nat × Option Ent)) (c : Bool) (d : Nat) (A w : Wr) : putMs m ((if c = true then (d, .fz) :: A else []) ++ w) = putMs (fzIf c d m) ((if c = true then A else []) ++ w) := by cases c <;> rfl
theorem putMs_if1 (m : List (Nat × Option Ent)) (c : Bool) (d : Nat) (A : Wr) : putMs m (if c = true then (d, .fz) :: A else []) = putMs (fzIf c d m) (if c = true then A else []) := by cases c <;> rfl
theorem wrHard_nil : wrHard [] = [] := rfl
theorem wrHard_set (d : Nat) (c : Cont) (w : Wr) : wrHard ((d, .set c) :: w) = d :: wrHard w := rfl
theorem wrHard_del (d : Nat) (w : Wr) : wrHard ((d, .del) :: w) = d :: wrHard w := rfl
theorem wrHard_fz (d : Nat) (w : Wr) : wrHard ((d, .fz) :: w) = wrHard w := rfl
theorem wrHard_if (c : Bool) (d : Nat) (A w : Wr) : wrHard ((if c = true then (d, .fz) :: A else []) ++ w) = wrHard ((if c = true then A else []) ++ w) := by cases c <;> rfl
theorem wrHard_if1 (c : Bool) (d : Nat) (A : Wr) : wrHard (if c = true then (d, .fz) :: A else []) = wrHard (if c = true then A else []) := by cases c <;> rfl
theorem wrSoft_nil : wrSoft [] = [] := rfl
theorem wrSoft_set (d : Nat) (c : Cont) (w : Wr) : wrSoft ((d, .set c) :: w) = wrSoft w := rfl
theorem wrSoft_del (d : Nat) (w : Wr) : wrSoft ((d, .del) :: w) = wrSoft w := rfl
theorem wrSoft_fz (d : Nat) (w : Wr) : wrSoft ((d, .fz) :: w) = d :: wrSoft w := rfl
theorem wrSoft_if (c : Bool) (d : Nat) (A w : Wr) : wrSoft ((if c = true then (d, .fz) :: A else []) ++ w) = (if c = true then [d] else []) ++ wrSoft ((if c = true then A else []) ++ w) := by cases c <;> rfl
theorem wrSoft_if1 (c : Bool) (d : Nat) (A : Wr) : wrSoft (if c = true then (d, .fz) :: A else []) = (if c = true then [d] else []) ++ wrSoft (if c = true then A else []) := by cases c <;> rfl
attribute [go_sem] get_fzIf putMs_if putMs_if1 wrHard_nil wrHard_set wrHard_del wrHard_fz wrHard_if wrHard_if1 wrSoft_nil wrSoft_set wrSoft_del wrSoft_fz wrSoft_if wrSoft_if1
end Go.Den
