/- Rows of values: what the functions come to. -/
import Derived.Test.YtjhdickfkpcccaaSchm1
namespace Go.Proofs.Ytjhdickfkpcccaa.D
open Go Go.Den
set_option linter.unusedSimpArgs false
set_option linter.unusedVariables false
set_option maxRecDepth 20000
set_option maxHeartbeats 4000000
theorem zip_take {α β : Type} (f : α → β → Bool) {a : List α} {b : List β} {i : Nat} {x : α} {y : β} (hx : a[i]? = some x) (hy : b[i]? = some y) :
    (List.zipWith f (a.take (i + 1)) (b.take (i + 1))).all id = ((List.zipWith f (a.take i) (b.take i)).all id && f x y) := by
  have h1 : (a.take i).length = (b.take i).length := by
    have := (List.getElem?_eq_some_iff.1 hx).1
    have := (List.getElem?_eq_some_iff.1 hy).1
    rw [List.length_take, List.length_take]; omega
  rw [List.take_add_one, List.take_add_one, hx, hy, List.zipWith_append h1, List.all_append]
  simp
theorem zip_false {α β : Type} (f : α → β → Bool) {a : List α} {b : List β} {i : Nat} {x : α} {y : β} (hx : a[i]? = some x) (hy : b[i]? = some y) (h : f x y = false) : (List.zipWith f a b).all id = false := by
  rw [List.all_eq_false]
  exact ⟨f x y, List.mem_of_getElem? (i := i) (by rw [List.getElem?_zipWith, hx, hy]), by simp [h]⟩
end Go.Proofs.Ytjhdickfkpcccaa.D
