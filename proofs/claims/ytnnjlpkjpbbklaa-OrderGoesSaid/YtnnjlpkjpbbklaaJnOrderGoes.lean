/-
  OrderGoes: the row's closed cells are what the program forces. Conditions: none.
-/
import Derived.Test.YtnnjlpkjpbbklaaRow
set_option linter.unusedVariables false
set_option linter.unusedSimpArgs false
namespace Go.Proofs.Ytnnjlpkjpbbklaa
set_option maxHeartbeats 8000000 in
theorem orderGoes_joined : joinedFacts Try.checked.prog 17 Try.f17 Rows.orderGoesSpec Rows.orderGoesRow = true := by
  unfold joinedFacts
  repeat (refine Bool.and_eq_true_iff.2 ⟨?_, ?_⟩)
  all_goals as_aux_lemma => kernel_rfl
end Go.Proofs.Ytnnjlpkjpbbklaa
