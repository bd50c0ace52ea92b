import Derived.Test.YtgghcngfleicnaaQ0
import Derived.Below
import Derived.Shelf.Abstract
namespace Go.Proofs.Ytgghcngfleicnaa.Q
open Go.RowKit Go.Proofs.YtgghcngfleicnaaW.PrintWords Go.Proofs.YtgghcngfleicnaaW.PrintLast Go.Proofs.YtgghcngfleicnaaW.PrintMore
set_option linter.unusedVariables false
set_option linter.unusedSimpArgs false

theorem ret_int {k : IntKind} {a b : Int} (h : a = b) : Ending.returned (.int k a) = .returned (.int k b) := by rw [h]
theorem ret_bool {a b : Bool} (h : a = b) : Ending.returned (.bool a) = .returned (.bool b) := by rw [h]

/-- The first place at which p holds, or -1. -/
def idxF {α : Type} (p : α → Bool) (xs : List α) : Int := if xs.any p then (xs.findIdx p : Int) else -1
theorem idxF_hit {α : Type} (p : α → Bool) (xs : List α) (k : Nat) (hk : k < xs.length) (h : p xs[k] = true) (hb : ∀ j (hj : j < xs.length), j < k → p xs[j] = false) : idxF p xs = (k : Int) := by
  unfold idxF
  rw [if_pos (List.any_eq_true.2 ⟨xs[k], List.getElem_mem hk, h⟩)]
  congr 1
  rw [List.findIdx_eq hk]
  exact ⟨h, fun j hj => by simpa using hb j (by omega) hj⟩
theorem idxF_miss {α : Type} (p : α → Bool) (xs : List α) (hb : ∀ j (hj : j < xs.length), p xs[j] = false) : idxF p xs = -1 := by
  unfold idxF
  rw [if_neg]
  intro h
  obtain ⟨x, hx, hp⟩ := List.any_eq_true.1 h
  obtain ⟨j, hj, rfl⟩ := List.mem_iff_getElem.1 hx
  rw [hb j hj] at hp
  cases hp
theorem idxF_any {α : Type} (p : α → Bool) (xs : List α) : decide (0 ≤ idxF p xs) = xs.any p := by
  unfold idxF
  cases h : xs.any p <;> simp

/-- A predicate as a function value: what a call of it does. val: how an element stands as a value. -/
def PredOk {α : Type} (g : Nat) (lb : Array Value) (val : α → Value) (p : α → Bool) (w : World) : Prop :=
  ∀ (W : World) (x : α), Below w.heap.size w W → Calls Try.prog g (#[val x] ++ lb) W fun e w' => e = .returned (.bool (p x)) ∧ Below W.heap.size W w'

end Go.Proofs.Ytgghcngfleicnaa.Q
