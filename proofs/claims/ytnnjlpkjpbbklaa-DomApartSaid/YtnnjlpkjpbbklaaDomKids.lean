/-
  The kids of a node are another row: in the old row's block, or a new one. Conditions: none.
-/
import Derived.Test.YtnnjlpkjpbbklaaSlices3
import Derived.Test.YtnnjlpkjpbbklaaDomOps2
set_option linter.unusedVariables false
set_option linter.unusedSimpArgs false
namespace Go.Proofs.Ytnnjlpkjpbbklaa
open Go.RowKit

section
variable {w : World} {tb : Nat} {T : DT} {nv : Value} {G : List (Option NG)}

theorem Rep.kids (h : Rep w tb T nv G) {i : Nat} {n : Nd} {g : NG} {ks : List Nat} {v : Value} {w1 w2 w3 : World} (hn : T.at_ i = some n) (hg : G[i]? = some (some g)) (hr : NodeRep w g n) (hb : Below w.heap.size w w1)
    (hrow : Row w2 3 1 v ks.length (kidCells ks)) (hO : Only (fun b => g.kv.ownBlock = some b) w1 w2) (hnew : ∀ b, v.ownBlock = some b → g.kv.ownBlock = some b ∨ w1.heap.size ≤ b) (hw : w3 = w2.setCell ⟨g.b, 3, none⟩ v) :
    Rep w3 tb (T.put i (some { n with kids := ks })) nv (G.set i (some ⟨g.b, g.av, v⟩)) ∧ (∀ b ∈ repBlocks tb nv (G.set i (some ⟨g.b, g.av, v⟩)), b ∈ repBlocks tb nv G ∨ w.heap.size ≤ b) ∧ Only (fun b => b ∈ repBlocks tb nv G) w w3 := by
  have hnd := h.node_nodup hg
  have hne := NG.b_ne hnd
  have hz := hb.size
  have hz2 := hO.size
  have hlt := hr.lt
  have hgb := hr.1.lt
  have hsub : ∀ b ∈ g.blocks, b ∈ repBlocks tb nv G := fun b hb1 => mem_repBlocks_node hg hb1
  have hvb : v.ownBlock ≠ some g.b := by
    intro e
    rcases hnew _ e with h1 | h1
    · exact hne.2.1 h1
    · omega
  subst hw
  have hblk : ∀ b, b < w.heap.size → b ≠ g.b → g.kv.ownBlock ≠ some b → (w2.setCell ⟨g.b, 3, none⟩ v).heap[b]? = w.heap[b]? := by
    intro b hb1 h1 h2
    rw [Below.heap_setCell _ _ _ _ h1, hO.block b (by omega) h2]
    exact hb.block b hb1
  have hA : At (w2.setCell ⟨g.b, 3, none⟩ v) g.b 139 #[I n.tag, g.av, .string n.text, v, I (DT.upI n.up)] := by
    have h1 : At w1 g.b 139 #[I n.tag, g.av, .string n.text, g.kv, I (DT.upI n.up)] := hr.1.keep hb
    have h2 : At w2 g.b 139 #[I n.tag, g.av, .string n.text, g.kv, I (DT.upI n.up)] := (hO.block g.b (by omega) hne.2.1).trans h1
    exact h2.set' rfl
  have hN : NodeRep (w2.setCell ⟨g.b, 3, none⟩ v) ⟨g.b, g.av, v⟩ { n with kids := ks } := by
    refine ⟨hA, hr.2.1.same fun b hb1 => ?_, hrow.same fun b hb1 => ?_⟩
    · exact hblk b (hr.2.1.lt b hb1).2 (fun e => hne.1 (by rw [← e]; exact hb1)) (hne.2.2 b hb1)
    · exact Below.heap_setCell _ _ _ _ (fun e => hvb (by rw [hb1]; exact congrArg some e))
  have hnew' : ∀ b ∈ (⟨g.b, g.av, v⟩ : NG).blocks, b ∈ g.blocks ∨ w.heap.size ≤ b := by
    intro b hb1
    simp only [NG.blocks, List.mem_cons, List.mem_append, Option.mem_toList] at hb1 ⊢
    rcases hb1 with h1 | h1 | h1
    · exact .inl (.inl h1)
    · exact .inl (.inr (.inl h1))
    · rcases hnew b h1 with h2 | h2
      · exact .inl (.inr (.inr h2))
      · right; omega
  refine ⟨h.setNode (n' := { n with kids := ks }) (g' := ⟨g.b, g.av, v⟩) hn hg rfl hN ?_ ?_ hnew', ?_, ?_⟩
  · intro b hb1 hb2
    refine hblk b (h.lt b hb1) (fun e => hb2 (by rw [e]; simp [NG.blocks])) (fun e => hb2 (by simp [NG.blocks, e]))
  · simp only [NG.blocks, List.nodup_cons, List.mem_append, Option.mem_toList, not_or, List.nodup_append]
    refine ⟨⟨hne.1, hvb⟩, ?_, ?_, fun a ha b hb1 e => ?_⟩
    · cases g.av.ownBlock <;> simp
    · cases v.ownBlock <;> simp
    · subst e
      have ha' : g.av.ownBlock = some a := by simpa using ha
      rcases hnew a (by simpa using hb1) with h1 | h1
      · exact hne.2.2 a ha' h1
      · have := (hr.2.1.lt a ha').2; omega
  · refine Rep.set_blocks (fun b hb1 => .inl hb1) fun b hb1 => ?_
    rcases hnew' b hb1 with h1 | h1
    · exact .inl (hsub b h1)
    · exact .inr h1
  · refine ⟨hO.os.trans hb.os, hO.tape.trans hb.tape, hO.output.trans hb.output, by rw [World.size_setCell]; omega, fun b hb1 hn' => ?_⟩
    exact hblk b hb1 (fun e => hn' (hsub b (by rw [e]; simp [NG.blocks]))) (fun e => hn' (hsub b (by simp [NG.blocks, e])))
end
end Go.Proofs.Ytnnjlpkjpbbklaa
