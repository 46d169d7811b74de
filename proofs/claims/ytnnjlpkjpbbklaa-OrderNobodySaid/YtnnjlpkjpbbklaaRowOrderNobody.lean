/-
  OrderNobody: for every input the call returns true, and each argument reads behind the call as it read before. Conditions: none.
-/
import Derived.Test.YtnnjlpkjpbbklaaJnOrderNobody
import Derived.Test.YtnnjlpkjpbbklaaOrderNobody
import Derived.Test.YtnnjlpkjpbbklaaOpen9
set_option linter.unusedVariables false
set_option linter.unusedSimpArgs false
namespace Go.Proofs.Ytnnjlpkjpbbklaa
open Go.ChangeShapes Go.WideShapes Go.ChangeAt Go.RowKit Go.Joins

set_option maxRecDepth 100000 in
theorem orderNobody_lifted (os : Os) (started : os.Started) (H : Type) (enc : TypeId × Value → H) :
    ReturnsInHanded {} Try.checked os 12 .any (Rows.orderNobodySpec.pre6 enc Try.prog Try.f12 Rows.orderNobodyRow.domain false) (Rows.orderNobodySpec.post enc Try.prog Try.f12 false true false false) := by
  refine returnsInHanded_of_change (C := Try.checked) rowOwn started (by kernel_rfl) Try.func12
    (ChangeSpec.witness6 (enc := enc) (C := Try.checked) false ⟨#[], #[.int .i64 0, .agg #[.int .i64 0, .int .i64 0], .slice none 0 0], []⟩ 8 (by kernel_rfl) (by kernel_rfl) (by kernel_rfl) (by kernel_rfl)) ?_
  intro W base args ds gs before hval0 hW _ _
  have hval : ∀ (j : Nat) t v, Try.f12.params[j]? = some t → args[j]? = some v → Value.okWide Try.prog W .any base t v := hval0
  have hW' := hW
  obtain ⟨p, q, hA0, hV, rfl, _, _⟩ := hW
  have hA : DataW.TrodAll enc Try.prog W 0 (fun _ => true) true Try.f12.params.toList args.toList ds p := hA0
  have hAk := hA
  rw [Try.params12] at hA hval
  obtain ⟨v0, vs0, d0, ds0, p0, q0, hargs, rfl, rfl, h0, r0⟩ := trodAll_cons hA
  obtain ⟨v1, vs1, d1, ds1, p1, q1, rfl, rfl, rfl, h1, r1⟩ := trodAll_cons r0
  obtain ⟨v2, vs2, d2, ds2, p2, q2, rfl, rfl, rfl, h2, r2⟩ := trodAll_cons r1
  obtain ⟨rfl, rfl, rfl⟩ := trodAll_nil r2
  obtain rfl : args = #[v0, v1, v2] := by cases args; simp_all
  obtain ⟨rfl, rfl⟩ := trodVars_none hV
  obtain ⟨a0, rfl, rfl, rfl, _⟩ := open_int Try.underlying3 (hval 0 3 v0 rfl rfl) h0
  obtain ⟨c1, g1, y1, z1, m1, rfl, rfl, rfl, hy1, hz1⟩ := open_agg2 Try.underlying25 (by kernel_rfl) (by kernel_rfl) (hval 1 25 v1 rfl rfl) h1
  obtain ⟨a1, ea1, _, _⟩ := DataW.trod_int Try.underlying3 hy1
  obtain ⟨b1, eb1, _, _⟩ := DataW.trod_int Try.underlying3 hz1
  obtain rfl : c1 = .int .i64 a1 := by simpa using ea1
  obtain rfl : g1 = .int .i64 b1 := by simpa using eb1
  obtain ⟨l2, hl2⟩ := arg_ints (hval 2 81 v2 rfl rfl) h2
  simp only [List.append_nil, List.nil_append] at hW' hAk
  refine (orderNobody_any hl2 a0 a1 b1).mono fun e W' ⟨he, hb⟩ => ?_
  subst he
  refine ⟨_, rfl, law_post rowLaid (by rw [Try.params12]; intro t ht; simp at ht <;> ((repeat' (rcases ht with rfl | ht)) <;> (try subst ht) <;> exact ⟨by kernel_rfl, of_decide_eq_true (by kernel_rfl)⟩)) rfl Try.underlying4 hAk hW' rfl rfl rfl rfl hb⟩

theorem orderNobody_over : Rows.orderNobodyRow.holds Try.pinned (OpenSpec.ofChange Rows.orderNobodySpec) :=
  OpenClaim.holds_of_wide 12 Try.f12 rfl rfl rfl rfl rfl rfl rfl ⟨rfl, rfl, rfl, rfl, rfl⟩ rfl rfl rfl rfl rfl (by kernel_rfl) Try.func12 orderNobody_joined
    (of_decide_eq_true (by kernel_rfl)) (by unfold Func.isWrapper; first | (rw [if_pos (by decide +kernel)]; kernel_rfl) | (rw [if_neg (by decide +kernel)]; exact ⟨rfl, rfl⟩))
    (fun os started H enc _ => orderNobody_lifted os started H enc)

theorem orderNobody_holds : Rows.OrderNobodySaid := orderNobody_over
#print axioms orderNobody_holds
end Go.Proofs.Ytnnjlpkjpbbklaa
