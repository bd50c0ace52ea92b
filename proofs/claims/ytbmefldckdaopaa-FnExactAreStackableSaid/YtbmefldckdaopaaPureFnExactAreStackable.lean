/-
  PROVED: for every list of things (of any numbers), the program's AreStackable returns what the reference's returns, and the list reads behind the call as before.
  CONDITIONS: none beyond the statement's own.
-/
import Derived.Test.YtbmefldckdaopaaQ9
import Derived.Test.YtbmefldckdaopaaGT
namespace Go.Proofs.Ytbmefldckdaopaa.Pure
open Go.RowKit Go.Proofs.Ytbmefldckdaopaa.Q Go.Proofs.YtbmefldckdaopaaW.PrintWords Go.Proofs.YtbmefldckdaopaaW.PrintLast

theorem FnExactAreStackable : ∀ (l0 : List S51), l0.length ≤ maxLen → l0.length * 24 ≤ 140737488351232 → (∀ x ∈ l0, (Lit.int .i64 x.f0).wf = true ∧ (Lit.int .i64 x.f1).wf = true ∧ (Lit.int .i64 x.f2).wf = true) → ∃ k, laws_FnExactAreStackable.f k l0 = some true := by
  intro l _ h24 _
  refine ⟨l.length + 1, ?_⟩
  unfold laws_FnExactAreStackable.f
  by_cases hl : l.length ≤ 1048576
  · rw [szThingS_small l hl]
    simp only [Option.bind_some]
    rw [if_neg (by omega), toThingS_eq l (by omega) _ (by omega)]
    unfold spec_AreStackable.f
    simp only [Option.bind_some]
    rw [scGood_eq _ (by simp; omega) _ (by simp)]
    unfold impl_AreStackable.f
    simp only [Option.bind_some]
    rw [eqThingS_self _ (by simp; omega) _ (by simp)]
    simp
  · rw [szThingS_great l (by omega) (by omega)]
    rfl
end Go.Proofs.Ytbmefldckdaopaa.Pure
