/-
  How a tree of package dom lies in memory, and what stays of it where memory grows or other blocks are written. Conditions: none.
-/
import Derived.Test.YtnnjlpkjpbbklaaBase
import Derived.Test.YtnnjlpkjpbbklaaDomLem
set_option linter.unusedVariables false
set_option linter.unusedSimpArgs false
namespace Go.Proofs.Ytnnjlpkjpbbklaa
open Go.RowKit

/-- A slice value that reads as n elements, the cells xs, in a row of its own. -/
abbrev Row (w : World) (e : TypeId) (size : Nat) (v : Value) (n : Nat) (xs : List Value) : Prop := w.ownsRow 0 e size v n xs

theorem Row.same {w w' : World} {e : TypeId} {size : Nat} {v : Value} {n : Nat} {xs : List Value} (h : Row w e size v n xs) (hs : ∀ g, v.ownBlock = some g → w'.heap[g]? = w.heap[g]?) : Row w' e size v n xs := by
  refine ⟨h.1, ?_⟩
  rcases h.2 with hn | ⟨g, cap, cur, rfl, hb, hg, r⟩
  · exact .inl hn
  · exact .inr ⟨g, cap, cur, rfl, hb, by rw [hs g rfl]; exact hg, r⟩
theorem Row.below {w w' : World} {B : Nat} {e : TypeId} {size : Nat} {v : Value} {n : Nat} {xs : List Value} (h : Row w e size v n xs) (hb : Below B w w') (hB : ∀ g, v.ownBlock = some g → g < B) : Row w' e size v n xs :=
  h.same fun g hg => hb.block g (hB g hg)
theorem Row.keep {w w' : World} {e : TypeId} {size : Nat} {v : Value} {n : Nat} {xs : List Value} (h : Row w e size v n xs) (hb : Below w.heap.size w w') : Row w' e size v n xs :=
  h.below hb fun g hg => (h.lt g hg).2
/-- Its cells, one by one, where there is one. -/
theorem Row.open_ {w : World} {e : TypeId} {v : Value} {n : Nat} {xs : List Value} (h : Row w e 1 v n xs) (hn : 0 < n) :
    ∃ g cap, v = .slice (some ⟨g, 0, none⟩) n cap ∧ n ≤ cap ∧ cap ≤ maxLen ∧ g < w.heap.size ∧ ∀ j (hj : j < n), w.cell? ⟨g, j, none⟩ = xs[j]? := by
  rcases h.2 with ⟨_, h0⟩ | ⟨g, cap, cur, rfl, _, hg, hc, hm, hs, ht⟩
  · omega
  · refine ⟨g, cap, rfl, hc, hm, (Array.getElem?_eq_some_iff.1 hg).1, fun j hj => ?_⟩
    rw [cell_of_row w g j cur e (0, 0) hg, ← ht, List.getElem?_take, if_pos (by omega)]
    simp
/-- The value's form, nil or not. -/
theorem Row.form {w : World} {e : TypeId} {size : Nat} {v : Value} {n : Nat} {xs : List Value} (h : Row w e size v n xs) : ∃ A cap, v = .slice A n cap ∧ n ≤ cap ∧ (cap : Nat) ≤ maxLen ∧ (A = none → n = 0 ∧ cap = 0) := by
  rcases h.2 with ⟨rfl, rfl⟩ | ⟨g, cap, cur, rfl, _, hg, hc, hm, hs, ht⟩
  · exact ⟨none, 0, rfl, Nat.le_refl _, Nat.zero_le _, fun _ => ⟨rfl, rfl⟩⟩
  · exact ⟨_, cap, rfl, hc, hm, fun h => by cases h⟩

def attrCells (l : List (Bytes × Bytes)) : List Value := l.flatMap fun a => [.string a.1, .string a.2]
def kidCells (l : List Nat) : List Value := l.map fun (k : Nat) => I (k : Int)

theorem attrCells_length (l : List (Bytes × Bytes)) : (attrCells l).length = l.length * 2 := by
  induction l with
  | nil => rfl
  | cons a l ih => simp only [attrCells, List.flatMap_cons, List.length_append, List.length_cons, List.length_nil] at *; omega
theorem kidCells_length (l : List Nat) : (kidCells l).length = l.length := by simp [kidCells]
theorem kidCells_get (l : List Nat) (j : Nat) (h : j < l.length) : (kidCells l)[j]? = some (I (l[j] : Int)) := by simp [kidCells, h]

/-- Where a node lies, and its two slices. -/
structure NG where
  b : Nat
  av : Value
  kv : Value

def NodeRep (w : World) (g : NG) (n : Nd) : Prop :=
  At w g.b 139 #[I n.tag, g.av, .string n.text, g.kv, I (DT.upI n.up)] ∧ Row w 55 2 g.av n.attrs.length (attrCells n.attrs) ∧ Row w 3 1 g.kv n.kids.length (kidCells n.kids)

def NG.blocks (g : NG) : List Nat := g.b :: (g.av.ownBlock.toList ++ g.kv.ownBlock.toList)
def ngPtr : Option NG → Value
  | none => .pointer none
  | some g => .pointer (some ⟨g.b, 0, none⟩)
def ngBlocks : Option NG → List Nat
  | none => []
  | some g => g.blocks
def repBlocks (tb : Nat) (nv : Value) (G : List (Option NG)) : List Nat := tb :: (nv.ownBlock.toList ++ G.flatMap ngBlocks)

structure Rep (w : World) (tb : Nat) (T : DT) (nv : Value) (G : List (Option NG)) : Prop where
  tree : At w tb 143 #[I T.cap, I T.dep, I (T.count : Int), nv]
  len : G.length = T.nodes.length
  row : Row w 134 1 nv G.length (G.map ngPtr)
  node : ∀ i n, T.at_ i = some n → ∃ g, G[i]? = some (some g) ∧ NodeRep w g n
  none_ : ∀ i, i < G.length → T.at_ i = none → G[i]? = some none
  nodup : (repBlocks tb nv G).Nodup

theorem NodeRep.lt {w : World} {g : NG} {n : Nd} (h : NodeRep w g n) : ∀ b ∈ g.blocks, b < w.heap.size := by
  intro b hb
  simp only [NG.blocks, List.mem_cons, List.mem_append, Option.mem_toList] at hb
  rcases hb with rfl | hb | hb
  · exact h.1.lt
  · exact (h.2.1.lt b hb).2
  · exact (h.2.2.lt b hb).2
theorem NodeRep.same {w w' : World} {g : NG} {n : Nd} (h : NodeRep w g n) (hs : ∀ b ∈ g.blocks, w'.heap[b]? = w.heap[b]?) : NodeRep w' g n :=
  ⟨(hs g.b (by simp [NG.blocks])).trans h.1, h.2.1.same fun b hb => hs b (by simp [NG.blocks, hb]), h.2.2.same fun b hb => hs b (by simp [NG.blocks, hb])⟩

theorem mem_repBlocks_node {tb : Nat} {nv : Value} {G : List (Option NG)} {i : Nat} {g : NG} (h : G[i]? = some (some g)) {b : Nat} (hb : b ∈ g.blocks) : b ∈ repBlocks tb nv G := by
  simp only [repBlocks, List.mem_cons, List.mem_append, List.mem_flatMap]
  exact .inr (.inr ⟨some g, List.mem_of_getElem? h, hb⟩)

section
variable {w w' : World} {tb : Nat} {T : DT} {nv : Value} {G : List (Option NG)}
theorem Rep.lt (h : Rep w tb T nv G) : ∀ b ∈ repBlocks tb nv G, b < w.heap.size := by
  intro b hb
  simp only [repBlocks, List.mem_cons, List.mem_append, Option.mem_toList, List.mem_flatMap] at hb
  rcases hb with rfl | hb | ⟨o, ho, hb⟩
  · exact h.tree.lt
  · exact (h.row.lt b hb).2
  · cases o with
    | none => simp [ngBlocks] at hb
    | some g =>
      obtain ⟨i, hi, e⟩ := List.mem_iff_getElem.1 ho
      have hg : G[i]? = some (some g) := by rw [List.getElem?_eq_getElem hi, e]
      cases hn : T.at_ i with
      | none => rw [h.none_ i hi hn] at hg; cases hg
      | some n =>
        obtain ⟨g', hg', hr⟩ := h.node i n hn
        rw [hg] at hg'
        obtain rfl := Option.some.inj (Option.some.inj hg')
        exact hr.lt b hb
/-- All of it lies as it lay where its blocks do. -/
theorem Rep.same (h : Rep w tb T nv G) (hs : ∀ b ∈ repBlocks tb nv G, w'.heap[b]? = w.heap[b]?) : Rep w' tb T nv G where
  tree := (hs tb (by simp [repBlocks])).trans h.tree
  len := h.len
  row := h.row.same fun b hb => hs b (by simp [repBlocks, hb])
  node := fun i n hn => by
    obtain ⟨g, hg, hr⟩ := h.node i n hn
    exact ⟨g, hg, hr.same fun b hb => hs b (mem_repBlocks_node hg hb)⟩
  none_ := h.none_
  nodup := h.nodup
theorem Rep.keep (h : Rep w tb T nv G) (hb : Below w.heap.size w w') : Rep w' tb T nv G := h.same fun b hm => hb.block b (h.lt b hm)
end

/-- Only the blocks of S may have been written; all others of the old heap lie as they lay. -/
structure Only (S : Nat → Prop) (w w' : World) : Prop where
  os : w'.os = w.os
  tape : w'.tape = w.tape
  output : w'.output = w.output
  size : w.heap.size ≤ w'.heap.size
  block : ∀ k, k < w.heap.size → ¬ S k → w'.heap[k]? = w.heap[k]?

/-- A tree lies in memory, in blocks of S. -/
def Tree (w : World) (tb : Nat) (T : DT) (S : Nat → Prop) : Prop := ∃ nv G, Rep w tb T nv G ∧ ∀ b ∈ repBlocks tb nv G, S b

theorem Tree.keep {w w' : World} {tb : Nat} {T : DT} {S : Nat → Prop} (h : Tree w tb T S) (hb : Below w.heap.size w w') : Tree w' tb T S := by
  obtain ⟨nv, G, hr, hs⟩ := h
  exact ⟨nv, G, hr.keep hb, hs⟩

section
variable {S S' : Nat → Prop} {a b c : World}
theorem Only.refl (S : Nat → Prop) (w : World) : Only S w w := ⟨rfl, rfl, rfl, Nat.le_refl _, fun _ _ _ => rfl⟩
theorem Only.of_below (h : Below a.heap.size a b) : Only S a b := ⟨h.os, h.tape, h.output, h.size, fun k hk _ => h.block k hk⟩
theorem Only.mono (h : Only S a b) (hs : ∀ k, S k → S' k) : Only S' a b := ⟨h.os, h.tape, h.output, h.size, fun k hk hn => h.block k hk fun hx => hn (hs k hx)⟩
theorem Only.trans (h : Only S a b) (k : Only S' b c) (hs : ∀ i, i < a.heap.size → S' i → S i) : Only S a c :=
  ⟨k.os.trans h.os, k.tape.trans h.tape, k.output.trans h.output, Nat.le_trans h.size k.size, fun i hi hn => (k.block i (Nat.lt_of_lt_of_le hi h.size) fun hx => hn (hs i hi hx)).trans (h.block i hi hn)⟩
theorem Only.below (h : Only S a b) (hs : ∀ k, k < a.heap.size → ¬ S k) : Below a.heap.size a b := ⟨h.os, h.tape, h.output, h.size, fun k hk => h.block k hk (hs k hk)⟩
end
end Go.Proofs.Ytnnjlpkjpbbklaa
