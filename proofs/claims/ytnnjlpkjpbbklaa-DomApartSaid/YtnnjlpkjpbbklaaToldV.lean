/-
  A plain tree that was told, and stays in a variable. Conditions: it lies in memory.
-/
import Derived.Test.YtnnjlpkjpbbklaaPlayed
set_option linter.unusedVariables false
set_option linter.unusedSimpArgs false
namespace Go.Proofs.Ytnnjlpkjpbbklaa
open Go.RowKit

/-- A plain tree in a variable of its own. -/
def BoxV (w : World) (B : Nat) (V : VN) : Prop := At w B 41 V.cells.toArray

/-- A plain tree that was told lies there, and in a variable. -/
structure ToldV (base : Nat) (w : World) (B : Nat) (V : VN) (n : PNode) : Prop where
  box : BoxV w B V
  pv : PV w (fun b => base ≤ b ∧ b < w.heap.size) V
  node : V.node = n
  ge : base ≤ B

theorem ToldV.only {base B : Nat} {w w' : World} {V : VN} {n : PNode} {S : Nat → Prop} (h : ToldV base w B V n) (ho : Only S w w') (hS : ∀ b, S b → b < base) : ToldV base w' B V n := by
  have hz := ho.size
  refine ⟨(ho.block B h.box.lt (fun hx => by have := hS _ hx; have := h.ge; omega)).trans h.box, (h.pv.keep fun b hb => ho.block b hb.2 (fun hx => by have := hS _ hx; omega)).mono fun b hb => ⟨hb.1, by omega⟩, h.node, h.ge⟩

theorem ToldV.make {base B B2 : Nat} {w2 w' : World} {V : VN} {n : PNode} {X : Prop} (hV : V.node = n ∧ PV w2 (Since B2 w2) V ∧ X) (hB : base ≤ B2) (hb : Below w2.heap.size w2 w') (box : BoxV w' B V) (ge : base ≤ B) : ToldV base w' B V n := by
  have hz := hb.size
  exact ⟨box, (hV.2.1.keepB hb fun b hb => hb.2).mono fun b hb => ⟨Nat.le_trans hB hb.1, Nat.lt_of_lt_of_le hb.2 hz⟩, hV.1, ge⟩

/-- SameNode of a tree just told and one that was told. -/
theorem ToldV.same {base B : Nat} {w : World} {V U : VN} {n : PNode} {R : Nat → Prop} (h : ToldV base w B V n) (hU : PV w R U) (hR : ∀ b, R b → b < w.heap.size) (e : U.node = n) (hs : n.small) (ht : n.thin) :
    Calls Try.prog 41 #[U.agg, V.agg] w (Ret (.bool true) w) :=
  sameNode_eq U V R _ w hU h.pv (by rw [e, h.node]) (by rw [e]; exact hs) (by rw [e]; exact ht) hR (fun b hb => hb.2)
end Go.Proofs.Ytnnjlpkjpbbklaa
