/-
  A tree under way in a law, and Graft. Conditions: the tree lies in memory and is sound.
-/
import Derived.Test.YtnnjlpkjpbbklaaDomGraft2
import Derived.Test.YtnnjlpkjpbbklaaLawSat
set_option linter.unusedVariables false
set_option linter.unusedSimpArgs false
namespace Go.Proofs.Ytnnjlpkjpbbklaa
open Go.RowKit

namespace DT
variable {T : DT}
theorem AB.link (hA : T.AB) (id kid : Nat) : (T.link id kid).AB := by
  unfold DT.link
  split
  · rename_i p k hp hk
    exact hA.insertAt hp hk
  · exact hA
theorem AB.graftP (f : Bytes → Bytes) : ∀ (n : PNode) (T : DT), T.AB → n.small → (DT.graftP f n T).2.AB := by
  intro n
  induction n using PNode.ind with
  | h t a x ks ih =>
    intro T hA hs
    unfold PNode.small at hs
    unfold DT.graftP
    have key : ∀ (ks : List PNode) (id : Nat) (T : DT), (∀ k ∈ ks, ∀ T : DT, T.AB → k.small → (DT.graftP f k T).2.AB) → T.AB → PNode.smallL ks → (DT.graftL f ks id T).AB := by
      intro ks
      induction ks with
      | nil => intro id T _ h _; exact h
      | cons k ks ih2 =>
        intro id T ih h hs
        unfold PNode.smallL at hs
        unfold DT.graftL
        exact ih2 id _ (fun k' hk' => ih k' (by simp [hk'])) ((ih k (by simp) T h hs.1).link id _) hs.2
    exact key ks _ _ ih (hA.addAt hs.1) hs.2.2
theorem AB.graft (hA : T.AB) (hW : T.WF) (f : Bytes → Bytes) (parent pos : Int) {n : PNode} (hs : n.small) : (T.graft f parent pos n).2.AB := by
  rcases hW.graft_spec (f := f) parent pos n with ⟨e, _, h⟩ | ⟨p, T', id, m, _, _, _, _, _, hm, _, hp, _, _, _, _, _, hg, h2⟩
  · rw [h]; exact hA
  · rw [h2]
    have h1 := AB.graftP f n T hA hs
    rw [hg] at h1
    exact AB.insertAt h1 hp hm
end DT

section
variable {tb : Nat} {S0 : Nat → Prop} {w0 w : World} {T : DT}
theorem Sat.graft (h : Sat tb S0 w0 T w) (a b : Int) {V : VN} {R : Nat → Prop} (hP : PV w R V) (hR : ∀ b, R b → b < w0.heap.size ∧ ¬ S0 b) (hs : V.node.small) (hz : V.node.size ≤ 100000) :
    Calls Try.prog 46 #[.pointer (some ⟨tb, 0, none⟩), I a, I b, V.agg] w fun e w' => e = .returned (.tuple #[I (T.graft anew a b V.node).1.1, I (T.graft anew a b V.node).1.2]) ∧ Sat tb S0 w0 (T.graft anew a b V.node).2 w' := by
  obtain ⟨⟨nv, G, hr, hs'⟩, ho⟩ := h.mut_
  have hz0 := ho.size
  refine (graft_any hr (S := fun b => b ∈ repBlocks tb nv G) (fun _ hb => hb) h.wf a b hP (fun x hx => ⟨by have := (hR x hx).1; omega, fun hm => ?_⟩) hs hz).mono ?_
  · rcases hs' x hm with h1 | h1
    · exact (hR x hx).2 h1
    · have := (hR x hx).1; omega
  · rintro e w' ⟨he, hm⟩
    exact ⟨he, Mut.seq ho hs' (Below.refl _ _) hm, h.wf.graft a b V.node, h.ab.graft h.wf anew a b hs⟩

end
end Go.Proofs.Ytnnjlpkjpbbklaa
