/-
  A row of plain trees that grows by one. Conditions: none.
-/
import Derived.Test.YtnnjlpkjpbbklaaNodeV
import Derived.Deep.AppendLies
set_option linter.unusedVariables false
set_option linter.unusedSimpArgs false
namespace Go.Proofs.Ytnnjlpkjpbbklaa
open Go.RowKit

theorem infoNode : (Try.prog.info? 41).map (fun i => (i.zero, i.size, i.bytes)) = some (some (.agg #[.int .i64 0, .slice none 0 0, .string ByteArray.empty, .slice none 0 0]), 4, 72) := by kernel_rfl

/-- The call's own row of plain trees kv, apart from the blocks of X. -/
structure NSt (base : Nat) (X : Nat → Prop) (Vs : List VN) (kv : Value) (w : World) : Prop where
  row : w.ownsRow base 41 4 kv Vs.length (kidsCells Vs)
  apart : ∀ b, kv.ownBlock = some b → ¬ X b
  kids : ∀ V ∈ Vs, PV w (fun b => base ≤ b ∧ b < w.heap.size ∧ ¬ X b ∧ kv.ownBlock ≠ some b) V

section
variable {base : Nat} {X : Nat → Prop} {Vs : List VN} {kv : Value} {w w' w1 w2 w3 w4 : World}
theorem NSt.nil (base : Nat) (X : Nat → Prop) (w : World) : NSt base X [] (.slice none 0 0) w := ⟨World.ownsRow_nil _ _ _ _, fun b h => (by cases h), fun V h => (by cases h)⟩

theorem NSt.keep (h : NSt base X Vs kv w) (hz : w.heap.size ≤ w'.heap.size) (hk : ∀ b, b < w.heap.size → ¬ X b → w'.heap[b]? = w.heap[b]?) : NSt base X Vs kv w' := by
  refine ⟨?_, h.apart, fun V hV => ?_⟩
  · obtain ⟨h1, h2⟩ := h.row
    refine ⟨h1, ?_⟩
    rcases h2 with hn | ⟨g, cap, cur, rfl, hb, hg, r⟩
    · exact .inl hn
    · exact .inr ⟨g, cap, cur, rfl, hb, by rw [hk g (Array.getElem?_eq_some_iff.1 hg).1 (h.apart g rfl)]; exact hg, r⟩
  · exact ((h.kids V hV).keep fun b hb => hk b hb.2.1 hb.2.2.1).mono fun b hb => ⟨hb.1, by omega, hb.2.2⟩

theorem NSt.step (h : NSt base X Vs kv w) (hX : ∀ b, X b → b < w.heap.size) (hbase : base ≤ w.heap.size) (hb : Below w.heap.size w w1) {V : VN} (hV : PV w1 (Since w.heap.size w1) V)
    (hb2 : Below w1.heap.size w1 w2) {g cap : Nat} (hown : w3.ownsRow base 41 4 (.slice (some ⟨g, 0, none⟩) (Vs.length + 1) cap) (Vs.length + 1) (kidsCells Vs ++ V.cells)) (hg : w2.grownBy w3 kv.ownBlock)
    (hlie : kv.ownBlock = some g ∨ g = w2.heap.size) (hz4 : w4.heap.size = w3.heap.size) (h4 : ∀ b, ¬ X b → w4.heap[b]? = w3.heap[b]?) : NSt base X (Vs ++ [V]) (.slice (some ⟨g, 0, none⟩) (Vs.length + 1) cap) w4 := by
  have hz := hb.size
  have hz2 := hb2.size
  have hz3 := hg.size
  have hgX : ¬ X g := by
    rcases hlie with e | e
    · exact h.apart g e
    · intro hx; have := hX g hx; omega
  have hkvl : ∀ b, kv.ownBlock = some b → b < w.heap.size := fun b hb1 => (own_ge h.row b hb1).2
  have hgne : ∀ b, b < w2.heap.size → kv.ownBlock ≠ some b → g ≠ b := by
    intro b hb1 hne e
    rcases hlie with e1 | e1
    · exact hne (e ▸ e1)
    · omega
  refine ⟨?_, ?_, ?_⟩
  · rw [List.length_append, List.length_singleton, kidsCells_append]
    obtain ⟨h1, h2⟩ := hown
    refine ⟨h1, ?_⟩
    rcases h2 with hn | ⟨g', cap', cur, hv, hb', hg', r⟩
    · exact .inl hn
    · cases hv
      exact .inr ⟨g, cap, cur, rfl, hb', by rw [h4 g hgX]; exact hg', r⟩
  · intro b hb1
    simp [Value.ownBlock] at hb1
    subst hb1
    exact hgX
  · intro V' hV'
    rcases List.mem_append.1 hV' with h1 | h1
    · refine ((h.kids V' h1).keep fun b hb1 => ?_).mono fun b hb1 => ⟨hb1.1, by omega, hb1.2.2.1, ?_⟩
      · rw [h4 b hb1.2.2.1, hg.block b (by omega) (fun e => hb1.2.2.2 e.symm), hb2.block b (by omega), hb.block b hb1.2.1]
      · simp only [Value.ownBlock]
        exact fun e => hgne b (by omega) hb1.2.2.2 (Option.some.inj e)
    · have e : V' = V := by simpa using h1
      subst e
      refine (hV.keep fun b hb1 => ?_).mono fun b hb1 => ⟨by have := hb1.1; omega, by have := hb1.2; omega, fun hx => by have := hX b hx; have := hb1.1; omega, ?_⟩
      · have h1 := hb1.1
        have h2 := hb1.2
        rw [h4 b (fun hx => by have := hX b hx; omega), hg.block b (by omega) (fun e => by have := hkvl b e.symm; omega), hb2.block b h2]
      · have h1 := hb1.1
        have h2 := hb1.2
        simp only [Value.ownBlock]
        exact fun e => hgne b (by omega) (fun e' => by have := hkvl b e'; omega) (Option.some.inj e)

/-- The finished row, as a plain tree's kids. -/
theorem NSt.rowQ (h : NSt base X Vs kv w) : RowQ w (fun b => base ≤ b ∧ b < w.heap.size) 4 kv Vs.length (kidsCells Vs) := own_rowQ h.row (by omega)
end
end Go.Proofs.Ytnnjlpkjpbbklaa
