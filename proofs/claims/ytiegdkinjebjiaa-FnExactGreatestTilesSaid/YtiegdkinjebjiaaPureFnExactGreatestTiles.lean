/-
  PROVED: for every pair of whole numbers of 64 bits, the program's GreatestTiles returns what the reference's returns.
  CONDITIONS: none beyond the statement's own; the arguments are any two values of Go's int.
-/
import Derived.Test.YtiegdkinjebjiaaPFnExactGreatestTilesx1
namespace Go.Proofs.Ytiegdkinjebjiaa.Pure
open Go.RowKit Go.Proofs.Ytiegdkinjebjiaa.PFnExactGreatestTiles Go.Proofs.YtiegdkinjebjiaaW.PrintWords Go.Proofs.YtiegdkinjebjiaaW.PrintLast

/-- On the boards that are valid the two agree: all of them, computed. -/
theorem tiles_valid : ∀ a : Fin 24, ∀ b : Fin 24, laws_FnExactGreatestTiles.f 40 ((a.val : Int) + 1) ((b.val : Int) + 1) = some true := by
  decide +kernel

theorem FnExactGreatestTiles : laws_FnExactGreatestTiles.Pure := by
  intro a b _ _
  by_cases h : (1 ≤ a ∧ a ≤ 24) ∧ (1 ≤ b ∧ b ≤ 24)
  · obtain ⟨⟨h1, h2⟩, h3, h4⟩ := h
    refine ⟨40, ?_⟩
    have := tiles_valid ⟨(a - 1).toNat, by omega⟩ ⟨(b - 1).toNat, by omega⟩
    rw [show (((⟨(a - 1).toNat, by omega⟩ : Fin 24).val : Nat) : Int) + 1 = a by simp only; omega, show (((⟨(b - 1).toNat, by omega⟩ : Fin 24).val : Nat) : Int) + 1 = b by simp only; omega] at this
    exact this
  · refine ⟨0, ?_⟩
    unfold laws_FnExactGreatestTiles.f spec_GreatestTiles.f impl_GreatestTiles.f spec_bdGood.f impl_isBoard.f spec_l1In.f impl_within.f
    by_cases h1 : 1 ≤ a <;> by_cases h2 : a ≤ 24 <;> by_cases h3 : 1 ≤ b <;> by_cases h4 : b ≤ 24 <;> simp [h1, h2, h3, h4] <;> omega

end Go.Proofs.Ytiegdkinjebjiaa.Pure
