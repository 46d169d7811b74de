/-
  A handed row of ints, a handed point, as they lie in memory. Conditions: none.
-/
import Derived.Test.YtnnjlpkjpbbklaaLawB
import Derived.Test.YtnnjlpkjpbbklaaOrdA
set_option linter.unusedVariables false
set_option linter.unusedSimpArgs false
namespace Go.Proofs.Ytnnjlpkjpbbklaa
open Go.RowKit Go.ChangeShapes Go.WideShapes
section
variable {H : Type} {enc : TypeId × Value → H} {w : World} {spare : Nat → Bool} {held : Bool}
theorem LI.of_rowQ {R : Nat → Prop} {v : Value} {zs : List Int} (h : RowQ w R 1 v zs.length (zs.map (Value.int .i64))) : LI w v zs := by
  rcases h.2 with ⟨rfl, h0⟩ | ⟨A, cap, rfl, h0, hm⟩ | ⟨b, off, cap, rfl, h1, h2, _, hc⟩
  · exact ⟨none, 0, by rw [h0], by omega, Nat.zero_le _, fun j hj => by omega⟩
  · exact ⟨_, cap, by rw [h0], by omega, hm, fun j hj => by omega⟩
  · exact ⟨_, cap, rfl, h1, h2, fun j hj => ⟨b, off, rfl, hc j _ (by rw [List.getElem?_map, List.getElem?_eq_getElem hj]; rfl)⟩⟩
set_option maxRecDepth 100000 in
theorem ints_open {fuel : Nat} {cs : List Value} {x : DataW H × List MemPlace} (h : DataW.trod enc Try.prog w 0 spare held fuel 81 cs = some x) : ∃ (v : Value) (zs : List Int), cs = [v] ∧ LI w v zs := by
  obtain ⟨v, zs, h1, h2, _⟩ := row_open (fun z : Int => [I z]) (size := 1) (fun _ => rfl) (by omega) (fun _ => True) Try.underlying81 (by kernel_rfl) (fun n cs' y _ hy => by
    obtain ⟨z, e, _⟩ := DataW.trod_int Try.underlying3 hy
    exact ⟨z, e, trivial⟩) h
  refine ⟨v, zs, h1, LI.of_rowQ (R := InW w) ?_⟩
  have e : ∀ l : List Int, l.map (Value.int .i64) = l.flatMap fun z => [I z] := by
    intro l
    induction l with
    | nil => rfl
    | cons z l ih => rw [List.map_cons, List.flatMap_cons, ih]; rfl
  rw [e]; exact h2
set_option maxRecDepth 100000 in
theorem arg_ints {r : Reach} {b0 : Nat} {v : Value} {d : DataW H} {ps : List MemPlace} (hval : Value.okWide Try.prog w r b0 81 v) (h : DataW.Trod enc Try.prog w 0 spare held 81 v d ps) : ∃ zs, LI w v zs := by
  obtain ⟨fuel, hf⟩ := h
  obtain ⟨v', l, h1, h2⟩ := ints_open hf
  obtain ⟨o, m, c, rfl⟩ := okWide_slice Try.underlying81 hval
  simp [Value.cells] at h1
  subst h1
  exact ⟨l, h2⟩
set_option maxRecDepth 100000 in
theorem arg_point {r : Reach} {b0 : Nat} {v : Value} {d : DataW H} {ps : List MemPlace} (hval : Value.okWide Try.prog w r b0 87 v) (h : DataW.Trod enc Try.prog w 0 spare held 87 v d ps) : ∃ pv zs a, v = .agg #[pv, I a] ∧ LI w pv zs := by
  obtain ⟨fuel, hf⟩ := h
  obtain ⟨cs, rfl, _⟩ := okWide_struct Try.underlying87 hval
  obtain ⟨y0, y1, m, _, hl, h0, h1⟩ := trod_struct2 Try.underlying87 hf
  rw [show Try.prog.cellsOf 87 = 2 by kernel_rfl] at hl
  obtain ⟨cs⟩ := cs
  simp only [Value.cells] at h0 h1 hl
  match cs, hl with
  | [c0, c1], _ =>
    have g0 := cut_at (k := 1) (cs' := [c0]) (by kernel_rfl) h0 rfl
    have g1 := cut_at (k := 1) (cs' := [c1]) (by kernel_rfl) h1 rfl
    obtain ⟨pv, zs, e0, hz⟩ := ints_open g0
    obtain ⟨a, e1, _⟩ := DataW.trod_int Try.underlying3 g1
    simp only [List.cons.injEq, and_true] at e0 e1
    subst e0 e1
    exact ⟨_, zs, a, rfl, hz⟩
end
end Go.Proofs.Ytnnjlpkjpbbklaa
