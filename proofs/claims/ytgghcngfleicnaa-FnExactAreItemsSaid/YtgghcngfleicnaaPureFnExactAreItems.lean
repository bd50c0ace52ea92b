/-
  PROVED: for every list of items (of any numbers), the program's AreItems returns what the reference's returns, and the list reads behind the call as before.
  CONDITIONS: none beyond the statement's own.
-/
import Derived.Test.YtgghcngfleicnaaQ11
import Derived.Test.YtgghcngfleicnaaGI
namespace Go.Proofs.Ytgghcngfleicnaa.Pure
open Go.RowKit Go.Proofs.Ytgghcngfleicnaa.Q Go.Proofs.YtgghcngfleicnaaW.PrintWords Go.Proofs.YtgghcngfleicnaaW.PrintLast

theorem FnExactAreItems : ∀ (l0 : List S56), l0.length ≤ maxLen → l0.length * 24 ≤ 140737488351232 → (∀ x ∈ l0, (Lit.int .i64 x.f0).wf = true ∧ (Lit.int .i64 x.f1).wf = true ∧ (Lit.int .i64 x.f2).wf = true) → ∃ k, laws_FnExactAreItems.f k l0 = some true := by
  intro l _ h24 _
  refine ⟨l.length + 1, ?_⟩
  unfold laws_FnExactAreItems.f
  by_cases hl : l.length ≤ 1048576
  · rw [szItemS_small l hl]
    simp only [Option.bind_some]
    rw [if_neg (by omega), toItemS_eq l (by omega) _ (by omega)]
    unfold spec_AreItems.f
    simp only [Option.bind_some]
    rw [suGood_eq _ (by simp; omega) _ (by simp)]
    unfold impl_AreItems.f
    simp only [Option.bind_some]
    rw [eqItemS_self _ (by simp; omega) _ (by simp)]
    simp
  · rw [szItemS_great l (by omega) (by omega)]
    rfl
end Go.Proofs.Ytgghcngfleicnaa.Pure
